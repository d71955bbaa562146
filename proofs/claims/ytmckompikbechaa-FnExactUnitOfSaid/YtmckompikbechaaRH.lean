/- Worths of an item, its full base, its unit. -/
import Derived.Test.YtmckompikbechaaRG
import Derived.Test.YtmckompikbechaaTE
import Derived.Test.YtmckompikbechaaTD
import Derived.Test.YtmckompikbechaaTB
namespace Go.Proofs.Ytmckompikbechaa
open Go.RowKit Go.Sort
set_option linter.unusedVariables false

def worthAt (d : CoD) (x : ItD) (i : Nat) : Int := worthN d (x.1.getD i []) (x.2.1.getD i 0)
def worthsN (d : CoD) (x : ItD) (k : Nat) : List Int := (List.range k).map (worthAt d x)
def worthsF (d : CoD) (x : ItD) : List Int := worthsN d x x.1.length
theorem worthsN_succ (d : CoD) (x : ItD) (k : Nat) : worthsN d x (k + 1) = worthsN d x k ++ [worthAt d x k] := by simp [worthsN, List.range_succ]
theorem worthsN_len (d : CoD) (x : ItD) (k : Nat) : (worthsN d x k).length = k := by simp [worthsN]
theorem worthsN_bd {d : CoD} (hd : CodeOk d) (x : ItD) (k : Nat) : ∀ z ∈ worthsN d x k, 0 ≤ z ∧ z ≤ 2000 := by
  intro z hz
  obtain ⟨i, _, rfl⟩ := List.mem_map.1 hz
  exact worthN_bd hd _ _
theorem sum_bd2 (zs : List Int) (h : ∀ z ∈ zs, 0 ≤ z ∧ z ≤ 2000) : 0 ≤ zs.sum ∧ zs.sum ≤ 2000 * (zs.length : Int) := by
  induction zs with
  | nil => simp
  | cons z t ih =>
    have h1 := h z (by simp)
    have h2 := ih (fun y hy => h y (by simp [hy]))
    rw [List.sum_cons, List.length_cons]
    omega
theorem sumW_bd {d : CoD} (hd : CodeOk d) (x : ItD) (k : Nat) : 0 ≤ (worthsN d x k).sum ∧ (worthsN d x k).sum ≤ 2000 * k := by
  have := sum_bd2 _ (worthsN_bd hd x k)
  rwa [worthsN_len] at this
def roundI (a b : Int) : Int := (2 * a + b) / (2 * b)
def fullF (d : CoD) (x : ItD) : Int := if x.2.2 then roundI ((worthsF d x).sum * (100 + d.2.2.2.1)) 100 else (worthsF d x).sum
def unitN (d : CoD) (x : ItD) (k : Nat) : Int := (worthsN d x k).foldl max 0
def unitF (d : CoD) (x : ItD) : Int := unitN d x x.1.length
theorem unitN_succ (d : CoD) (x : ItD) (k : Nat) : unitN d x (k + 1) = max (unitN d x k) (worthAt d x k) := by
  unfold unitN; rw [worthsN_succ, List.foldl_append]; rfl
theorem foldl_max_bd (zs : List Int) (a : Int) (h : ∀ z ∈ zs, 0 ≤ z ∧ z ≤ 2000) (ha : 0 ≤ a ∧ a ≤ 2000) : 0 ≤ zs.foldl max a ∧ zs.foldl max a ≤ 2000 := by
  induction zs generalizing a with
  | nil => exact ha
  | cons z t ih => exact ih _ (fun y hy => h y (by simp [hy])) (by have := h z (by simp); omega)
theorem unitN_bd {d : CoD} (hd : CodeOk d) (x : ItD) (k : Nat) : 0 ≤ unitN d x k ∧ unitN d x k ≤ 2000 := foldl_max_bd _ _ (worthsN_bd hd x k) (by omega)
theorem maxL_unit {d : CoD} (hd : CodeOk d) (x : ItD) : maxL (worthsF d x) = unitF d x := by
  unfold maxL unitF unitN worthsF
  have h := worthsN_bd hd x x.1.length
  cases hw : worthsN d x x.1.length with
  | nil => rfl
  | cons z t =>
    rw [hw] at h
    have h0 := h z (by simp)
    simp only [List.headD_cons, List.foldl_cons]
    congr 1
    omega
theorem fullF_bd {d : CoD} (hd : CodeOk d) (x : ItD) (h3 : x.1.length ≤ 3) : 0 ≤ fullF d x ∧ fullF d x ≤ 10000 := by
  have hs := sumW_bd hd x x.1.length
  have hb := hd.bon
  unfold fullF worthsF
  generalize (worthsN d x x.1.length).sum = s at *
  have h0 : 0 ≤ s * (100 + d.2.2.2.1) := Int.mul_nonneg hs.1 (by omega)
  have h1 : s * (100 + d.2.2.2.1) ≤ s * 120 := Int.mul_le_mul_of_nonneg_left (by omega) hs.1
  split
  · unfold roundI; omega
  · omega
/-- What an item must be for its worths to be read. -/
structure ItOk (d : CoD) (x : ItD) : Prop where
  n1 : 1 ≤ x.1.length
  n3 : x.1.length ≤ 3
  ml : x.2.1.length = x.1.length
  kn : ∀ (i : Nat) (nm : List UInt8), x.1[i]? = some nm → 0 ≤ findF d.1 nm
theorem itOk {d : CoD} {x : ItD} (h : itemB x = true) (h1 : knownI d.1 x = true) : ItOk d x := by
  obtain ⟨a, b, c⟩ := itemB_ok h
  refine ⟨a, b, c, fun i nm hi => ?_⟩
  simp only [knownI, List.all_eq_true, decide_eq_true_eq] at h1
  exact h1 nm (List.mem_of_getElem? hi)
theorem worthAt_some {d : CoD} {x : ItD} {i : Nat} {nm : List UInt8} {mk : Int} (h : x.1[i]? = some nm) (h' : x.2.1[i]? = some mk) : worthAt d x i = worthN d nm mk := by
  unfold worthAt; rw [getD_some h, getD_some h']
theorem LR.intAt {w : World} {B c : Nat} {A : Option Addr} {zs : List Int} (h : LR kdInt w B A c zs) (k : Nat) (z : Int) (hz : zs[k]? = some z) : ∃ b off, A = some ⟨b, off, none⟩ ∧ b < B ∧ w.cell? ⟨b, off + k, none⟩ = some (.int .i64 z) := by
  obtain ⟨b, off, cs, rfl, hb, rfl, hc⟩ := h.2.2 k z hz
  refine ⟨b, off, rfl, hb, ?_⟩
  have := hc 0 _ rfl
  rwa [show k * kdInt.size + 0 = k from by show k * 1 + 0 = k; omega] at this


set_option maxRecDepth 100000 in
set_option maxHeartbeats 4000000 in
theorem i.worths_m (w : World) (v : Value) (d : CoD) (vs : List Value) (x : ItD) (h : kC.rd w v d) (hok : kC.ok d) (hd : CodeOk d) (hx : kdItem.rd w w.heap.size vs x) (hi : ItOk d x) :
    Calls Try.prog 144 #[v, kdItem.val vs] w fun e w' => ∃ A' c', e = .returned (.slice A' x.1.length c') ∧ OwnI 3 w' w.heap.size A' x.1.length c' (worthsF d x) ∧ Ext w w' := by
  obtain ⟨Ac, cc, Al, cl, rfl, hle, _⟩ := kC.lr h
  have HR := hide h
  have HLE := hide hle
  obtain ⟨nc, NC⟩ : ∃ z, Hid (d.1.length = z) := ⟨_, rfl⟩
  obtain ⟨nl, NL⟩ : ∃ z, Hid (d.2.1.length = z) := ⟨_, rfl⟩
  obtain ⟨r, RN⟩ : ∃ z, Hid (d.2.2.1 = z) := ⟨_, rfl⟩
  obtain ⟨b, BN⟩ : ∃ z, Hid (d.2.2.2.1 = z) := ⟨_, rfl⟩
  obtain ⟨p, PN⟩ : ∃ z, Hid (d.2.2.2.2.1 = z) := ⟨_, rfl⟩
  obtain ⟨f, FN⟩ : ∃ z, Hid (d.2.2.2.2.2 = z) := ⟨_, rfl⟩
  rw [NC.out, NL.out, RN.out, BN.out, PN.out, FN.out] at HR ⊢
  clear hle
  obtain ⟨A1, c1, A2, c2, rfl, h1, h2⟩ := kdItem.open_ hx
  rw [kdItem.val3]
  have H1 := hide h1
  have H2 := hide h2
  have a1 := h1.1; have a2 := h1.2.1; have a3 := h2.1; have a4 := h2.2.1
  have i1 := hi.n1; have i3 := hi.n3
  have ML := hide hi.ml
  have HI := hide hi
  have HD := hide hd
  clear h hx h1 h2 hi hd
  rw [ML.out] at a3 ⊢
  obtain ⟨m, hm⟩ : ∃ m, Hid (x.1.length = m) := ⟨_, rfl⟩
  rw [hm.out] at a1 a3 i1 i3 ⊢
  obtain ⟨q, hq⟩ : ∃ q, Hid (x.2.2 = q) := ⟨_, rfl⟩
  rw [hq.out]
  obtain ⟨W0, hW0⟩ : ∃ W0, Hid (W0 = (w.alloc (.cells #[.slice Ac nc cc, .slice Al nl cl, .int .i64 r, .int .i64 b, .int .i64 p, .int .i64 f] 59)).alloc (.cells #[.slice A1 m c1, .slice A2 m c2, .bool q] 70)) := ⟨_, rfl⟩
  have X0 : Hid (Ext w W0) := by rw [hW0.out]; exact (Ext.alloc w _).trans (Ext.alloc _ _)
  have B0 : Hid (Blk W0 w.heap.size #[.slice Ac nc cc, .slice Al nl cl, .int .i64 r, .int .i64 b, .int .i64 p, .int .i64 f] 59) := by rw [hW0.out]; exact (Blk.new rfl _ _).alloc _
  have B1 : Hid (Blk W0 (w.heap.size + 1) #[.slice A1 m c1, .slice A2 m c2, .bool q] 70) := by rw [hW0.out]; exact Blk.new (by simp) _ _
  have zW := X0.out.size
  have zz : W0.heap.size = w.heap.size + 1 + 1 := by rw [hW0.out]; simp
  have O9 : Hid (OwnI 3 (W0.alloc (.cells #[] 3)) W0.heap.size (some ⟨w.heap.size + 1 + 1, 0, none⟩) 0 0 (worthsN d x 0)) := Own.emptyAt zz 3 (by omega)
  have cIa : (W0.alloc (.cells #[] 3)).cell? ⟨w.heap.size + 1, 0, none⟩ = some (.slice A1 m c1) := ((Ext.alloc W0 _).cell (show w.heap.size + 1 < W0.heap.size from B1.out.lt)).trans (B1.out.cell 0)
  have WF : Hid (worthsF d x = worthsN d x m) := by show _ = _; rw [← hm.out]; rfl
  rw [WF.out]
  have ZZ := hide zz
  clear zz
  rw [hW0.out] at cIa
  go_enter Try.func144, Try.ntmps144
  go_wp2
  rw [← hW0.out]
  clear hW0 cIa
  go_loopw [5, 12] (fun o i wr => ∃ (k : Nat) (A' : Option Addr) (c' : Nat), k ≤ m ∧ i = .int .i64 k ∧ o = .slice A' k c' ∧ OwnI 3 wr W0.heap.size A' k c' (worthsN d x k) ∧ Ext W0 wr) (fun _ i _ => m - (intOf i).toNat)
  case atStart => exact ⟨0, _, _, Nat.zero_le _, rfl, rfl, O9.out, Ext.alloc W0 _⟩
  case round =>
    obtain ⟨k, A', c', hk, rfl, rfl, hown, hx⟩ := hrel
    have HO := hide hown
    have HX := hide hx
    have oc1 := hown.capn; have oc2 := hown.capm
    clear hown hx
    by_cases hlt : k < m
    · obtain ⟨nm, hnk⟩ : ∃ nm, Hid (x.1[k]? = some nm) := ⟨_, List.getElem?_eq_getElem (by rw [hm.out]; exact hlt)⟩
      obtain ⟨mk, hmk⟩ : ∃ mk, Hid (x.2.1[k]? = some mk) := ⟨_, List.getElem?_eq_getElem (by rw [ML.out, hm.out]; exact hlt)⟩
      have XW := hide (X0.out.trans HX.out)
      obtain ⟨bn, on, rfl, hbn, u0, ul⟩ := (H1.out.ext XW.out (Nat.le_refl _)).str k nm hnk.out
      obtain ⟨bm, om, rfl, hbm, u1⟩ := (H2.out.ext XW.out (Nat.le_refl _)).intAt k mk hmk.out
      have sz := XW.out.size
      have WA : Hid (worthAt d x k = worthN d nm mk) := worthAt_some hnk.out hmk.out
      have FI := HI.out.kn k nm hnk.out
      obtain ⟨e9, y, hF, hyk, -⟩ := findF_some FI
      have HF := hide hF
      have WE : Hid (worthAt d x k = worthE d.2.2.2.2.1 y mk) := by
        show _ = _
        rw [WA.out]; unfold worthN; rw [hF, Int.toNat_natCast, getD_some hyk]
      have hle := HLE.out
      have hnc := NC.out.symm
      have e9n : e9 < nc := by rw [hnc]; exact (List.getElem?_eq_some_iff.1 hyk).1
      have n24 : nc ≤ 24 := by rw [hnc]; exact HD.out.n2
      have ccn : nc ≤ cc := by rw [hnc]; exact hle.1
      have ccm := hle.2.1
      obtain ⟨be, oe, rfl, hbe, v0, v1, v2, v3, _⟩ := hle.element e9 y hyk
      have FE := hide (fun (wq : World) (xq : Ext W0 wq) => i.findElement_m wq _ d nm (kC.rd_ext HR.out (X0.out.trans xq)) hok)
      rw [hF] at FE
      have WO := hide (fun (wq : World) (xq : Ext W0 wq) => i.worthOf_m wq _ d y mk (kC.rd_ext HR.out (X0.out.trans xq)) HD.out (HD.out.els _ _ hyk))
      rw [← WE.out] at WO
      have zl : w.heap.size + 1 < W0.heap.size := B1.out.lt
      have SF : Hid (∀ w', Ext W0 w' → (∀ i, w'.cell? ⟨w.heap.size, i, none⟩ = #[Value.slice (some ⟨be, oe, none⟩) nc cc, .slice Al nl cl, .int .i64 r, .int .i64 b, .int .i64 p, .int .i64 f][i]?) ∧ (∀ i, w'.cell? ⟨w.heap.size + 1, i, none⟩ = #[Value.slice (some ⟨bn, on, none⟩) m c1, .slice (some ⟨bm, om, none⟩) m c2, .bool q][i]?) ∧ w'.cell? ⟨be, oe + e9 * 4, none⟩ = some (.string (bs y.1)) ∧ w'.cell? ⟨be, oe + e9 * 4 + 1, none⟩ = some (.int .i64 y.2.1) ∧ w'.cell? ⟨be, oe + e9 * 4 + 2, none⟩ = some (.int .i64 y.2.2.1) ∧ w'.cell? ⟨be, oe + e9 * 4 + 3, none⟩ = some (.int .i64 y.2.2.2) ∧ w'.cell? ⟨bm, om + k, none⟩ = some (.int .i64 mk)) := by
        intro w' xq
        have xx := X0.out.trans xq
        obtain ⟨_, _, hh, _, hmc⟩ := (H2.out.ext xx (Nat.le_refl _)).intAt k mk hmk.out
        simp only [Option.some.injEq, Addr.mk.injEq, and_true] at hh
        obtain ⟨rfl, rfl⟩ := hh
        exact ⟨(B0.out.ext xq).cell, (B1.out.ext xq).cell, (xx.cell hbe).trans v0, (xx.cell hbe).trans v1, (xx.cell hbe).trans v2, (xx.cell hbe).trans v3, hmc⟩
      have kI : (e9 : Int) < nc := by omega
      have b1 : (k + 1) * 8 ≤ 140737488355328 := by omega
      have b2 : k + 1 ≤ 4611686018427387904 := by omega
      have TK := hide (worthsN_succ d x k)
      clear v0 v1 v2 v3 u1 hle hyk hF WA FI hnc
      generalize worthAt d x k = Z at *
      have cN := u0
      go_wp2
      clear cN u0
      obtain ⟨c0_, c1_, s2_, s3_, s4_, s5_, s6_⟩ := SF.out wr HX.out
      go_region_held3 (fun w' => (∀ i, w'.cell? ⟨w.heap.size, i, none⟩ = #[Value.slice (some ⟨be, oe, none⟩) nc cc, .slice Al nl cl, .int .i64 r, .int .i64 b, .int .i64 p, .int .i64 f][i]?) ∧ (∀ i, w'.cell? ⟨w.heap.size + 1, i, none⟩ = #[Value.slice (some ⟨bn, on, none⟩) m c1, .slice (some ⟨bm, om, none⟩) m c2, .bool q][i]?) ∧ w'.cell? ⟨be, oe + e9 * 4, none⟩ = some (.string (bs y.1)) ∧ w'.cell? ⟨be, oe + e9 * 4 + 1, none⟩ = some (.int .i64 y.2.1) ∧ w'.cell? ⟨be, oe + e9 * 4 + 2, none⟩ = some (.int .i64 y.2.2.1) ∧ w'.cell? ⟨be, oe + e9 * 4 + 3, none⟩ = some (.int .i64 y.2.2.2) ∧ w'.cell? ⟨bm, om + k, none⟩ = some (.int .i64 mk))
        (first | exact SF.out _ Y9.out | exact SF.out _ (Y3.out.trans (Ext.alloc w3 _)) | exact SF.out _ Y3.out | exact SF.out _ Y2.out | exact SF.out _ (HX.out.trans (Ext.drew wr)))
        (first
        | (refine step_append_sl (by rfl) (.tmp 17) (.tmp 32) (by rfl) elem_int (by rfl) (by rfl) (lo := W0.heap.size) (Own.alloc O3.out (.cells #[.int .i64 Z] 3)) (Sl.one w3 (.int .i64 Z) 3) (one_int _) b1 b2 (by have := Y3.out.size; simp; omega) ?_; intro A9 c9 w9 hap; have Y9 := hide (hap.ext (Y3.out.trans (Ext.alloc w3 _)) O3.out.fromLo); have HAP := hide hap; clear hap)
        | (go_at_call 161; refine (WO.out w2 Y2.out).mono ?_; rintro e w3 ⟨rfl, x3⟩; have Y3 := hide (Y2.out.trans x3); have O3 : Hid (OwnI 3 w3 W0.heap.size A' k c' (worthsN d x k)) := O2.out.below x3 (Nat.le_refl _); clear x3)
        | (go_at_call 150; refine (FE.out wr.drew (HX.out.trans (Ext.drew wr))).mono ?_; rintro e w2 ⟨rfl, x2⟩; have Y2 := hide ((HX.out.trans (Ext.drew wr)).trans x2); have O2 : Hid (OwnI 3 w2 W0.heap.size A' k c' (worthsN d x k)) := HO.out.below ((Ext.drew wr).trans x2) (Nat.le_refl _); clear x2))
      go_wp2
      go_roundw
      case rel => exact ⟨k + 1, A9, c9, by omega, by go_num, rfl, own_conv HAP.out.own (Nat.le_refl _) rfl (by rw [TK.out, List.map_append]; rfl), Y9.out⟩
      case measure => simp [intOf]; omega
    · have ek : m = k := by omega
      subst ek
      go_wp2
      go_ret
      exact ⟨A', c', rfl, HO.out.lower zW, X0.out.trans HX.out⟩

set_option maxRecDepth 100000 in
set_option maxHeartbeats 4000000 in
theorem s.elUnit_m (w : World) (v : Value) (d : CoD) (vs : List Value) (x : ItD) (h : kC.rd w v d) (hok : kC.ok d) (hd : CodeOk d) (hx : kdItem.rd w w.heap.size vs x) (hi : ItOk d x) :
    Calls Try.prog 94 #[v, kdItem.val vs] w fun e w' => e = .returned (.int .i64 (unitF d x)) ∧ Ext w w' := by
  obtain ⟨Ac, cc, Al, cl, rfl, hle, _⟩ := kC.lr h
  have HR := hide h
  have HLE := hide hle
  obtain ⟨nc, NC⟩ : ∃ z, Hid (d.1.length = z) := ⟨_, rfl⟩
  obtain ⟨nl, NL⟩ : ∃ z, Hid (d.2.1.length = z) := ⟨_, rfl⟩
  obtain ⟨r, RN⟩ : ∃ z, Hid (d.2.2.1 = z) := ⟨_, rfl⟩
  obtain ⟨b, BN⟩ : ∃ z, Hid (d.2.2.2.1 = z) := ⟨_, rfl⟩
  obtain ⟨p, PN⟩ : ∃ z, Hid (d.2.2.2.2.1 = z) := ⟨_, rfl⟩
  obtain ⟨f, FN⟩ : ∃ z, Hid (d.2.2.2.2.2 = z) := ⟨_, rfl⟩
  rw [NC.out, NL.out, RN.out, BN.out, PN.out, FN.out] at HR ⊢
  clear hle
  obtain ⟨A1, c1, A2, c2, rfl, h1, h2⟩ := kdItem.open_ hx
  rw [kdItem.val3]
  have H1 := hide h1
  have H2 := hide h2
  have a1 := h1.1; have a2 := h1.2.1; have a3 := h2.1; have a4 := h2.2.1
  have i1 := hi.n1; have i3 := hi.n3
  have ML := hide hi.ml
  have HI := hide hi
  have HD := hide hd
  clear h hx h1 h2 hi hd
  rw [ML.out] at a3 ⊢
  obtain ⟨m, hm⟩ : ∃ m, Hid (x.1.length = m) := ⟨_, rfl⟩
  rw [hm.out] at a1 a3 i1 i3 ⊢
  obtain ⟨q, hq⟩ : ∃ q, Hid (x.2.2 = q) := ⟨_, rfl⟩
  rw [hq.out]
  obtain ⟨W0, hW0⟩ : ∃ W0, Hid (W0 = (w.alloc (.cells #[.slice Ac nc cc, .slice Al nl cl, .int .i64 r, .int .i64 b, .int .i64 p, .int .i64 f] 59)).alloc (.cells #[.slice A1 m c1, .slice A2 m c2, .bool q] 70)) := ⟨_, rfl⟩
  have X0 : Hid (Ext w W0) := by rw [hW0.out]; exact (Ext.alloc w _).trans (Ext.alloc _ _)
  have B0 : Hid (Blk W0 w.heap.size #[.slice Ac nc cc, .slice Al nl cl, .int .i64 r, .int .i64 b, .int .i64 p, .int .i64 f] 59) := by rw [hW0.out]; exact (Blk.new rfl _ _).alloc _
  have B1 : Hid (Blk W0 (w.heap.size + 1) #[.slice A1 m c1, .slice A2 m c2, .bool q] 70) := by rw [hW0.out]; exact Blk.new (by simp) _ _
  have zW := X0.out.size
  have cIa := B1.out.cell
  rw [hW0.out] at cIa
  go_enter Try.func94, Try.ntmps94
  go_wp2
  rw [← hW0.out]
  clear hW0 cIa
  go_loopw [5, 11] (fun o i wr => ∃ (k : Nat), k ≤ m ∧ i = .int .i64 k ∧ o = .int .i64 (unitN d x k) ∧ Ext W0 wr) (fun _ i _ => m - (intOf i).toNat)
  case atStart => exact ⟨0, Nat.zero_le _, rfl, rfl, Ext.refl _⟩
  case round =>
    obtain ⟨k, hk, rfl, rfl, hx⟩ := hrel
    have HX := hide hx
    clear hx
    by_cases hlt : k < m
    · obtain ⟨nm, hnk⟩ : ∃ nm, Hid (x.1[k]? = some nm) := ⟨_, List.getElem?_eq_getElem (by rw [hm.out]; exact hlt)⟩
      obtain ⟨mk, hmk⟩ : ∃ mk, Hid (x.2.1[k]? = some mk) := ⟨_, List.getElem?_eq_getElem (by rw [ML.out, hm.out]; exact hlt)⟩
      have XW := hide (X0.out.trans HX.out)
      obtain ⟨bn, on, rfl, hbn, u0, ul⟩ := (H1.out.ext XW.out (Nat.le_refl _)).str k nm hnk.out
      obtain ⟨bm, om, rfl, hbm, u1⟩ := (H2.out.ext XW.out (Nat.le_refl _)).intAt k mk hmk.out
      have sz := XW.out.size
      have WA : Hid (worthAt d x k = worthN d nm mk) := worthAt_some hnk.out hmk.out
      have FI := HI.out.kn k nm hnk.out
      have FE := hide (fun (wq : World) (xq : Ext W0 wq) => s.bsWorth_m wq _ d nm mk (kC.rd_ext HR.out (X0.out.trans xq)) hok HD.out FI)
      rw [← WA.out] at FE
      have Zb := worthN_bd HD.out nm mk
      rw [← WA.out] at Zb
      have Sb := unitN_bd HD.out x k
      have SU := hide (unitN_succ d x k)
      have zl : w.heap.size + 1 < W0.heap.size := B1.out.lt
      have SF : Hid (∀ w', Ext W0 w' → (∀ i, w'.cell? ⟨w.heap.size, i, none⟩ = #[Value.slice Ac nc cc, .slice Al nl cl, .int .i64 r, .int .i64 b, .int .i64 p, .int .i64 f][i]?) ∧ (∀ i, w'.cell? ⟨w.heap.size + 1, i, none⟩ = #[Value.slice (some ⟨bn, on, none⟩) m c1, .slice (some ⟨bm, om, none⟩) m c2, .bool q][i]?) ∧ w'.cell? ⟨bm, om + k, none⟩ = some (.int .i64 mk)) := by
        intro w' xq
        have xx := X0.out.trans xq
        obtain ⟨_, _, hh, _, hmc⟩ := (H2.out.ext xx (Nat.le_refl _)).intAt k mk hmk.out
        simp only [Option.some.injEq, Addr.mk.injEq, and_true] at hh
        obtain ⟨rfl, rfl⟩ := hh
        exact ⟨(B0.out.ext xq).cell, (B1.out.ext xq).cell, hmc⟩
      clear u1 WA FI
      generalize worthAt d x k = Z at *
      generalize hs9 : unitN d x k = Sk at *
      clear hs9
      have cN := u0
      go_wp2
      clear cN u0
      obtain ⟨c0_, c1_, s2_⟩ := SF.out wr HX.out
      go_region_held3 (fun w' => (∀ i, w'.cell? ⟨w.heap.size, i, none⟩ = #[Value.slice Ac nc cc, .slice Al nl cl, .int .i64 r, .int .i64 b, .int .i64 p, .int .i64 f][i]?) ∧ (∀ i, w'.cell? ⟨w.heap.size + 1, i, none⟩ = #[Value.slice (some ⟨bn, on, none⟩) m c1, .slice (some ⟨bm, om, none⟩) m c2, .bool q][i]?) ∧ w'.cell? ⟨bm, om + k, none⟩ = some (.int .i64 mk))
        (first | exact SF.out _ Y2.out | exact SF.out _ (HX.out.trans (Ext.drew wr)))
        (first
        | (go_at_call 139; refine (s.l1Most_any _ _ _).mono ?_; rintro e w3 ⟨rfl, rfl⟩)
        | (go_at_call 140; refine (FE.out wr.drew (HX.out.trans (Ext.drew wr))).mono ?_; rintro e w2 ⟨rfl, x2⟩; have Y2 := hide ((HX.out.trans (Ext.drew wr)).trans x2); clear x2))
      clear c0_ c1_ s2_
      go_wp2
      go_roundw
      case rel => exact ⟨k + 1, by omega, by go_num, by rw [SU.out], Y2.out⟩
      case measure => simp [intOf]; omega
    · have ek : m = k := by omega
      subst ek
      go_wp2
      go_ret
      exact ⟨ret_int (by unfold unitF; rw [hm.out]), X0.out.trans HX.out⟩

def sumN (d : CoD) (x : ItD) (k : Nat) : Int := (worthsN d x k).sum
theorem sumN_succ (d : CoD) (x : ItD) (k : Nat) : sumN d x (k + 1) = sumN d x k + worthAt d x k := by unfold sumN; rw [worthsN_succ, List.sum_append]; simp
theorem sumN_bd {d : CoD} (hd : CodeOk d) (x : ItD) (k : Nat) : 0 ≤ sumN d x k ∧ sumN d x k ≤ 2000 * k := sumW_bd hd x k

set_option maxRecDepth 100000 in
set_option maxHeartbeats 4000000 in
theorem s.bsFull_m (w : World) (v : Value) (d : CoD) (vs : List Value) (x : ItD) (h : kC.rd w v d) (hok : kC.ok d) (hd : CodeOk d) (hx : kdItem.rd w w.heap.size vs x) (hi : ItOk d x) :
    Calls Try.prog 173 #[v, kdItem.val vs] w fun e w' => e = .returned (.int .i64 (fullF d x)) ∧ Ext w w' := by
  obtain ⟨Ac, cc, Al, cl, rfl, hle, _⟩ := kC.lr h
  have HR := hide h
  have HLE := hide hle
  obtain ⟨nc, NC⟩ : ∃ z, Hid (d.1.length = z) := ⟨_, rfl⟩
  obtain ⟨nl, NL⟩ : ∃ z, Hid (d.2.1.length = z) := ⟨_, rfl⟩
  obtain ⟨r, RN⟩ : ∃ z, Hid (d.2.2.1 = z) := ⟨_, rfl⟩
  obtain ⟨b, BN⟩ : ∃ z, Hid (d.2.2.2.1 = z) := ⟨_, rfl⟩
  obtain ⟨p, PN⟩ : ∃ z, Hid (d.2.2.2.2.1 = z) := ⟨_, rfl⟩
  obtain ⟨f, FN⟩ : ∃ z, Hid (d.2.2.2.2.2 = z) := ⟨_, rfl⟩
  rw [NC.out, NL.out, RN.out, BN.out, PN.out, FN.out] at HR ⊢
  clear hle
  obtain ⟨A1, c1, A2, c2, rfl, h1, h2⟩ := kdItem.open_ hx
  rw [kdItem.val3]
  have H1 := hide h1
  have H2 := hide h2
  have a1 := h1.1; have a2 := h1.2.1; have a3 := h2.1; have a4 := h2.2.1
  have i1 := hi.n1; have i3 := hi.n3
  have ML := hide hi.ml
  have HI := hide hi
  have HD := hide hd
  clear h hx h1 h2 hi hd
  rw [ML.out] at a3 ⊢
  obtain ⟨m, hm⟩ : ∃ m, Hid (x.1.length = m) := ⟨_, rfl⟩
  rw [hm.out] at a1 a3 i1 i3 ⊢
  obtain ⟨q, hq⟩ : ∃ q, Hid (x.2.2 = q) := ⟨_, rfl⟩
  rw [hq.out]
  obtain ⟨W0, hW0⟩ : ∃ W0, Hid (W0 = (w.alloc (.cells #[.slice Ac nc cc, .slice Al nl cl, .int .i64 r, .int .i64 b, .int .i64 p, .int .i64 f] 59)).alloc (.cells #[.slice A1 m c1, .slice A2 m c2, .bool q] 70)) := ⟨_, rfl⟩
  have X0 : Hid (Ext w W0) := by rw [hW0.out]; exact (Ext.alloc w _).trans (Ext.alloc _ _)
  have B0 : Hid (Blk W0 w.heap.size #[.slice Ac nc cc, .slice Al nl cl, .int .i64 r, .int .i64 b, .int .i64 p, .int .i64 f] 59) := by rw [hW0.out]; exact (Blk.new rfl _ _).alloc _
  have B1 : Hid (Blk W0 (w.heap.size + 1) #[.slice A1 m c1, .slice A2 m c2, .bool q] 70) := by rw [hW0.out]; exact Blk.new (by simp) _ _
  have zW := X0.out.size
  have cIa := B1.out.cell
  rw [hW0.out] at cIa
  go_enter Try.func173, Try.ntmps173
  go_wp2
  rw [← hW0.out]
  clear hW0 cIa
  go_loopw [5, 11] (fun o i wr => ∃ (k : Nat), k ≤ m ∧ i = .int .i64 k ∧ o = .int .i64 (sumN d x k) ∧ Ext W0 wr) (fun _ i _ => m - (intOf i).toNat)
  case atStart => exact ⟨0, Nat.zero_le _, rfl, rfl, Ext.refl _⟩
  case round =>
    obtain ⟨k, hk, rfl, rfl, hx⟩ := hrel
    have HX := hide hx
    clear hx
    by_cases hlt : k < m
    · obtain ⟨nm, hnk⟩ : ∃ nm, Hid (x.1[k]? = some nm) := ⟨_, List.getElem?_eq_getElem (by rw [hm.out]; exact hlt)⟩
      obtain ⟨mk, hmk⟩ : ∃ mk, Hid (x.2.1[k]? = some mk) := ⟨_, List.getElem?_eq_getElem (by rw [ML.out, hm.out]; exact hlt)⟩
      have XW := hide (X0.out.trans HX.out)
      obtain ⟨bn, on, rfl, hbn, u0, ul⟩ := (H1.out.ext XW.out (Nat.le_refl _)).str k nm hnk.out
      obtain ⟨bm, om, rfl, hbm, u1⟩ := (H2.out.ext XW.out (Nat.le_refl _)).intAt k mk hmk.out
      have sz := XW.out.size
      have WA : Hid (worthAt d x k = worthN d nm mk) := worthAt_some hnk.out hmk.out
      have FI := HI.out.kn k nm hnk.out
      have FE := hide (fun (wq : World) (xq : Ext W0 wq) => s.bsWorth_m wq _ d nm mk (kC.rd_ext HR.out (X0.out.trans xq)) hok HD.out FI)
      rw [← WA.out] at FE
      have Zb := worthN_bd HD.out nm mk
      rw [← WA.out] at Zb
      have Sb := sumN_bd HD.out x k
      have SU := hide (sumN_succ d x k)
      have zl : w.heap.size + 1 < W0.heap.size := B1.out.lt
      have SF : Hid (∀ w', Ext W0 w' → (∀ i, w'.cell? ⟨w.heap.size, i, none⟩ = #[Value.slice Ac nc cc, .slice Al nl cl, .int .i64 r, .int .i64 b, .int .i64 p, .int .i64 f][i]?) ∧ (∀ i, w'.cell? ⟨w.heap.size + 1, i, none⟩ = #[Value.slice (some ⟨bn, on, none⟩) m c1, .slice (some ⟨bm, om, none⟩) m c2, .bool q][i]?) ∧ w'.cell? ⟨bm, om + k, none⟩ = some (.int .i64 mk)) := by
        intro w' xq
        have xx := X0.out.trans xq
        obtain ⟨_, _, hh, _, hmc⟩ := (H2.out.ext xx (Nat.le_refl _)).intAt k mk hmk.out
        simp only [Option.some.injEq, Addr.mk.injEq, and_true] at hh
        obtain ⟨rfl, rfl⟩ := hh
        exact ⟨(B0.out.ext xq).cell, (B1.out.ext xq).cell, hmc⟩
      clear u1 WA FI
      generalize worthAt d x k = Z at *
      generalize hs9 : sumN d x k = Sk at *
      clear hs9
      have cN := u0
      go_wp2
      clear cN u0
      obtain ⟨c0_, c1_, s2_⟩ := SF.out wr HX.out
      have kw : IntKind.i64.wrap (Sk + Z) = Sk + Z := IntWalk.i64_in _ (by omega)
      go_region_held3 (fun w' => (∀ i, w'.cell? ⟨w.heap.size, i, none⟩ = #[Value.slice Ac nc cc, .slice Al nl cl, .int .i64 r, .int .i64 b, .int .i64 p, .int .i64 f][i]?) ∧ (∀ i, w'.cell? ⟨w.heap.size + 1, i, none⟩ = #[Value.slice (some ⟨bn, on, none⟩) m c1, .slice (some ⟨bm, om, none⟩) m c2, .bool q][i]?) ∧ w'.cell? ⟨bm, om + k, none⟩ = some (.int .i64 mk))
        (first | exact SF.out _ Y2.out | exact SF.out _ (HX.out.trans (Ext.drew wr)))
        (first
        
        | (go_at_call 140; refine (FE.out wr.drew (HX.out.trans (Ext.drew wr))).mono ?_; rintro e w2 ⟨rfl, x2⟩; have Y2 := hide ((HX.out.trans (Ext.drew wr)).trans x2); clear x2))
      clear kw c0_ c1_ s2_
      go_wp2
      go_roundw
      case rel => exact ⟨k + 1, by omega, by go_num, by rw [SU.out], Y2.out⟩
      case measure => simp [intOf]; omega
    · have ek : m = k := by omega
      subst ek
      have Sb := sumN_bd HD.out x m
      have FF : Hid (fullF d x = if q then roundI (sumN d x m * (100 + b)) 100 else sumN d x m) := by show _ = _; rw [← BN.out, ← hq.out, ← hm.out]; rfl
      have bb := HD.out.bon
      rw [BN.out] at bb
      generalize sumN d x m = Sk at *
      have h0 : 0 ≤ Sk * (100 + b) := Int.mul_nonneg (by omega) (by omega)
      have h1 : Sk * (100 + b) ≤ Sk * 120 := Int.mul_le_mul_of_nonneg_left (by omega) (by omega)
      have h2 : Sk * (100 + b) ≤ 1000000 := by omega
      clear h1
      have cB := (B0.out.ext HX.out).cell; have cI := (B1.out.ext HX.out).cell
      cases q
      · go_wp2
        go_ret
        exact ⟨ret_int (by rw [FF.out]; rfl), X0.out.trans HX.out⟩
      · go_wp2_with (go_at_call 187; refine (s.poRound_any _ _ _ (by omega) (by omega) (by omega) (by omega)).mono ?_; rintro e w3 ⟨rfl, rfl⟩)
        go_ret
        exact ⟨ret_int (by rw [FF.out]; rfl), X0.out.trans HX.out⟩

theorem small_of {zs : List Int} (h : ∀ z ∈ zs, 0 ≤ z ∧ z ≤ 2000) : Small zs := fun z hz => by have := h z hz; omega
set_option maxRecDepth 100000 in
set_option maxHeartbeats 1000000 in
theorem i.fullBase_m (w : World) (v : Value) (d : CoD) (vs : List Value) (x : ItD) (h : kC.rd w v d) (hok : kC.ok d) (hd : CodeOk d) (hx : kdItem.rd w w.heap.size vs x) (hi : ItOk d x) :
    Calls Try.prog 176 #[v, kdItem.val vs] w fun e w' => e = .returned (.int .i64 (fullF d x)) ∧ Ext w w' := by
  have IX := hide (fun (wq : World) (xq : Ext w wq) => i.worths_m wq v d vs x (kC.rd_ext h xq) hok hd (kdItem.rd_more (kdItem.rd_ext hx xq (Nat.le_refl _)) xq.size) hi)
  obtain ⟨Ac, cc, Al, cl, rfl, hle, _⟩ := kC.lr h
  have HR := hide h
  have HLE := hide hle
  obtain ⟨nc, NC⟩ : ∃ z, Hid (d.1.length = z) := ⟨_, rfl⟩
  obtain ⟨nl, NL⟩ : ∃ z, Hid (d.2.1.length = z) := ⟨_, rfl⟩
  obtain ⟨r, RN⟩ : ∃ z, Hid (d.2.2.1 = z) := ⟨_, rfl⟩
  obtain ⟨b, BN⟩ : ∃ z, Hid (d.2.2.2.1 = z) := ⟨_, rfl⟩
  obtain ⟨p, PN⟩ : ∃ z, Hid (d.2.2.2.2.1 = z) := ⟨_, rfl⟩
  obtain ⟨f, FN⟩ : ∃ z, Hid (d.2.2.2.2.2 = z) := ⟨_, rfl⟩
  rw [NC.out, NL.out, RN.out, BN.out, PN.out, FN.out] at HR IX ⊢
  clear hle
  obtain ⟨A1, c1, A2, c2, rfl, h1, h2⟩ := kdItem.open_ hx
  rw [kdItem.val3] at IX ⊢
  have H1 := hide h1
  have H2 := hide h2
  have a1 := h1.1; have a2 := h1.2.1; have a3 := h2.1; have a4 := h2.2.1
  have i1 := hi.n1; have i3 := hi.n3
  have ML := hide hi.ml
  have HI := hide hi
  have HD := hide hd
  clear h hx h1 h2 hi hd
  rw [ML.out] at a3 IX ⊢
  obtain ⟨m, hm⟩ : ∃ m, Hid (x.1.length = m) := ⟨_, rfl⟩
  rw [hm.out] at a1 a3 i1 i3 IX ⊢
  obtain ⟨q, hq⟩ : ∃ q, Hid (x.2.2 = q) := ⟨_, rfl⟩
  rw [hq.out] at IX ⊢
  obtain ⟨W0, hW0⟩ : ∃ W0, Hid (W0 = (w.alloc (.cells #[.slice Ac nc cc, .slice Al nl cl, .int .i64 r, .int .i64 b, .int .i64 p, .int .i64 f] 59)).alloc (.cells #[.slice A1 m c1, .slice A2 m c2, .bool q] 70)) := ⟨_, rfl⟩
  have X0 : Hid (Ext w W0) := by rw [hW0.out]; exact (Ext.alloc w _).trans (Ext.alloc _ _)
  have B0 : Hid (Blk W0 w.heap.size #[.slice Ac nc cc, .slice Al nl cl, .int .i64 r, .int .i64 b, .int .i64 p, .int .i64 f] 59) := by rw [hW0.out]; exact (Blk.new rfl _ _).alloc _
  have B1 : Hid (Blk W0 (w.heap.size + 1) #[.slice A1 m c1, .slice A2 m c2, .bool q] 70) := by rw [hW0.out]; exact Blk.new (by simp) _ _
  have zW := X0.out.size
  have Sb := sumN_bd HD.out x m
  have SS : Hid ((worthsF d x).sum = sumN d x m) := by show _ = _; rw [← hm.out]; rfl
  have SM := small_of (worthsN_bd HD.out x x.1.length)
  have FF : Hid (fullF d x = if q then roundI (sumN d x m * (100 + b)) 100 else sumN d x m) := by show _ = _; rw [← BN.out, ← hq.out, ← hm.out]; rfl
  have bb := HD.out.bon
  rw [BN.out] at bb
  rw [FF.out]
  have WL : Hid ((worthsF d x).length = m) := by show _ = _; rw [← hm.out]; exact worthsN_len _ _ _
  generalize sumN d x m = Sk at *
  have h0 : 0 ≤ Sk * (100 + b) := Int.mul_nonneg (by omega) (by omega)
  have h1 : Sk * (100 + b) ≤ Sk * 120 := Int.mul_le_mul_of_nonneg_left (by omega) (by omega)
  have h2 : Sk * (100 + b) ≤ 1000000 := by omega
  clear h1
  go_enter Try.func176, Try.ntmps176
  go_wp2_with fail
  rw [← hW0.out]
  clear hW0
  refine (IX.out W0 X0.out).mono ?_
  rintro e w1 ⟨A9, c9, rfl, o1, x1⟩
  have SL := o1.sl
  have X1 := hide (X0.out.trans x1)
  have cB := (B0.out.ext x1).cell; have cI := (B1.out.ext x1).cell
  have SUM := i.sumInts_any A9 m c9 w1.heap.size _ w1 SL (by omega) (show Small (worthsF d x) from SM)
  rw [SS.out] at SUM
  have SUMH := hide SUM
  clear SUM SL o1 x1 IX SM
  cases q
  · go_wp2_with (go_at_call 102; refine SUMH.out.mono ?_; rintro e w3 ⟨rfl, rfl⟩)
    go_ret
    exact ⟨rfl, X1.out⟩
  · go_wp2_with (first | (go_at_call 102; refine SUMH.out.mono ?_; rintro e w3 ⟨rfl, rfl⟩) | (go_at_call 188; refine (i.roundDiv_any _ _ _ (by omega) (by omega) (by omega) (by omega)).mono ?_; rintro e w3 ⟨rfl, rfl⟩))
    go_ret
    exact ⟨rfl, X1.out⟩

set_option maxRecDepth 100000 in
set_option maxHeartbeats 1000000 in
theorem i.unitOf_m (w : World) (v : Value) (d : CoD) (vs : List Value) (x : ItD) (h : kC.rd w v d) (hok : kC.ok d) (hd : CodeOk d) (hx : kdItem.rd w w.heap.size vs x) (hi : ItOk d x) :
    Calls Try.prog 97 #[v, kdItem.val vs] w fun e w' => e = .returned (.int .i64 (unitF d x)) ∧ Ext w w' := by
  have IX := hide (fun (wq : World) (xq : Ext w wq) => i.worths_m wq v d vs x (kC.rd_ext h xq) hok hd (kdItem.rd_more (kdItem.rd_ext hx xq (Nat.le_refl _)) xq.size) hi)
  obtain ⟨Ac, cc, Al, cl, rfl, hle, _⟩ := kC.lr h
  have HR := hide h
  have HLE := hide hle
  obtain ⟨nc, NC⟩ : ∃ z, Hid (d.1.length = z) := ⟨_, rfl⟩
  obtain ⟨nl, NL⟩ : ∃ z, Hid (d.2.1.length = z) := ⟨_, rfl⟩
  obtain ⟨r, RN⟩ : ∃ z, Hid (d.2.2.1 = z) := ⟨_, rfl⟩
  obtain ⟨b, BN⟩ : ∃ z, Hid (d.2.2.2.1 = z) := ⟨_, rfl⟩
  obtain ⟨p, PN⟩ : ∃ z, Hid (d.2.2.2.2.1 = z) := ⟨_, rfl⟩
  obtain ⟨f, FN⟩ : ∃ z, Hid (d.2.2.2.2.2 = z) := ⟨_, rfl⟩
  rw [NC.out, NL.out, RN.out, BN.out, PN.out, FN.out] at HR IX ⊢
  clear hle
  obtain ⟨A1, c1, A2, c2, rfl, h1, h2⟩ := kdItem.open_ hx
  rw [kdItem.val3] at IX ⊢
  have H1 := hide h1
  have H2 := hide h2
  have a1 := h1.1; have a2 := h1.2.1; have a3 := h2.1; have a4 := h2.2.1
  have i1 := hi.n1; have i3 := hi.n3
  have ML := hide hi.ml
  have HI := hide hi
  have HD := hide hd
  clear h hx h1 h2 hi hd
  rw [ML.out] at a3 IX ⊢
  obtain ⟨m, hm⟩ : ∃ m, Hid (x.1.length = m) := ⟨_, rfl⟩
  rw [hm.out] at a1 a3 i1 i3 IX ⊢
  obtain ⟨q, hq⟩ : ∃ q, Hid (x.2.2 = q) := ⟨_, rfl⟩
  rw [hq.out] at IX ⊢
  obtain ⟨W0, hW0⟩ : ∃ W0, Hid (W0 = (w.alloc (.cells #[.slice Ac nc cc, .slice Al nl cl, .int .i64 r, .int .i64 b, .int .i64 p, .int .i64 f] 59)).alloc (.cells #[.slice A1 m c1, .slice A2 m c2, .bool q] 70)) := ⟨_, rfl⟩
  have X0 : Hid (Ext w W0) := by rw [hW0.out]; exact (Ext.alloc w _).trans (Ext.alloc _ _)
  have B0 : Hid (Blk W0 w.heap.size #[.slice Ac nc cc, .slice Al nl cl, .int .i64 r, .int .i64 b, .int .i64 p, .int .i64 f] 59) := by rw [hW0.out]; exact (Blk.new rfl _ _).alloc _
  have B1 : Hid (Blk W0 (w.heap.size + 1) #[.slice A1 m c1, .slice A2 m c2, .bool q] 70) := by rw [hW0.out]; exact Blk.new (by simp) _ _
  have zW := X0.out.size
  have MX := hide (maxL_unit HD.out x)
  rw [← MX.out]
  go_enter Try.func97, Try.ntmps97
  go_wp2_with fail
  rw [← hW0.out]
  clear hW0
  refine (IX.out W0 X0.out).mono ?_
  rintro e w1 ⟨A9, c9, rfl, o1, x1⟩
  have X1 := hide (X0.out.trans x1)
  have MM := hide (slicesMax_any A9 m c9 w1.heap.size _ w1 o1.sl (by omega) (by omega))
  clear o1 x1 IX
  go_wp2_with (go_at_call 143; refine MM.out.mono ?_; rintro e w3 ⟨rfl, rfl⟩)
  go_ret
  exact ⟨rfl, X1.out⟩
end Go.Proofs.Ytmckompikbechaa
