/- How many elements each family has; MostSingles by the program. -/
import Derived.Test.YtmckompikbechaaPC
import Derived.Test.YtmckompikbechaaRL
import Derived.Test.YtmckompikbechaaPG
namespace Go.Proofs.Ytmckompikbechaa
open Go.RowKit Go.Sort
set_option linter.unusedVariables false

def famE (d : CoD) (i : Nat) : Nat := (d.1.getD i noEl).2.1.toNat
def limE (d : CoD) (f : Nat) : Nat := (d.2.1.getD f 0).toNat
def basE (d : CoD) (i : Nat) : Int := (d.1.getD i noEl).2.2.2
theorem famE_eq {d : CoD} {i : Nat} {x : ElD} (h : d.1[i]? = some x) : famE d i = x.2.1.toNat := by unfold famE; rw [getD_some h]
theorem basE_eq {d : CoD} {i : Nat} {x : ElD} (h : d.1[i]? = some x) : basE d i = x.2.2.2 := by unfold basE; rw [getD_some h]
theorem famE_lt {d : CoD} (hd : CodeOk d) (i : Nat) : famE d i < 5 := by
  unfold famE
  cases hx : d.1[i]? with
  | none => rw [List.getD_eq_getElem?_getD, hx]; decide
  | some y => rw [getD_some hx]; have := elB_ok (hd.els _ _ hx); omega
theorem limE_eq {d : CoD} (hd : CodeOk d) {f : Nat} (hf : f < 5) : (limE d f : Int) = d.2.1.getD f 0 ∧ 0 ≤ d.2.1.getD f 0 ∧ d.2.1.getD f 0 ≤ 9 := by
  have hl := hd.lim
  have hm : d.2.1.getD f 0 ∈ d.2.1 := by
    rw [List.getD_eq_getElem?_getD, List.getElem?_eq_getElem (by omega)]
    exact List.getElem_mem _
  have := hd.limb _ hm
  unfold limE
  omega
/-- How many of the first k elements each family has. -/
def szA (d : CoD) (k f : Nat) : Int := (cntF (famE d) f (List.range k) : Nat)
def szL (d : CoD) (k : Nat) : List Int := (List.range 5).map (szA d k)
theorem szL_len (d : CoD) (k : Nat) : (szL d k).length = 5 := by simp [szL]
theorem szL_at (d : CoD) (k : Nat) {f : Nat} (hf : f < 5) : (szL d k).getD f 0 = szA d k f := by
  unfold szL
  rw [List.getD_eq_getElem?_getD, List.getElem?_map, List.getElem?_range hf]
  rfl
theorem szA_bd (d : CoD) (k f : Nat) : 0 ≤ szA d k f ∧ szA d k f ≤ k := by
  unfold szA cntF
  have := List.length_filter_le (fun i => famE d i == f) (List.range k)
  rw [List.length_range] at this
  omega
theorem szA_succ (d : CoD) (k f : Nat) : szA d (k + 1) f = szA d k f + (if famE d k = f then 1 else 0) := by
  unfold szA
  rw [List.range_succ, cntF_snoc]
  split <;> simp
theorem szL_zero (d : CoD) : szL d 0 = List.replicate 5 0 := rfl
theorem szL_succ {d : CoD} {k f : Nat} (h : famE d k = f) (hf : f < 5) : szL d (k + 1) = (szL d k).set f (szA d k f + 1) := by
  apply List.ext_getElem?
  intro i
  rw [List.getElem?_set, szL_len]
  unfold szL
  rw [List.getElem?_map, List.getElem?_map]
  by_cases hi : i < 5
  · rw [List.getElem?_range hi]
    simp only [Option.map_some]
    by_cases hk : f = i
    · subst hk
      rw [if_pos rfl, if_pos hf, szA_succ, if_pos h]
    · rw [if_neg hk, szA_succ, if_neg (by omega)]
      simp
  · rw [List.getElem?_eq_none (l := List.range 5) (by simp; omega)]
    rw [if_neg (by omega)]
    rfl

set_option maxRecDepth 100000 in
set_option maxHeartbeats 2000000 in
theorem i.familySizes_m (w : World) (v : Value) (d : CoD) (h : kC.rd w v d) (hd : CodeOk d) :
    Calls Try.prog 86 #[v] w fun e w' => ∃ A' c', e = .returned (.slice A' 5 c') ∧ OwnI 3 w' w.heap.size A' 5 c' (szL d d.1.length) ∧ Ext w w' := by
  obtain ⟨Ac, cc, Al, cl, rfl, hle, _⟩ := kC.lr h
  obtain ⟨i0, hi, hz0, hz1, hz2⟩ := info_parts info_int
  have HZ := hide hz2
  have HI0 := hide hi
  have HZ0 := hide hz0
  have HZ1 := hide hz1
  clear hz2 hi hz0 hz1
  obtain ⟨nc, NC⟩ : ∃ z, Hid (d.1.length = z) := ⟨_, rfl⟩
  obtain ⟨nl, NL⟩ : ∃ z, Hid (d.2.1.length = z) := ⟨_, rfl⟩
  obtain ⟨r, RN⟩ : ∃ z, Hid (d.2.2.1 = z) := ⟨_, rfl⟩
  obtain ⟨b, BN⟩ : ∃ z, Hid (d.2.2.2.1 = z) := ⟨_, rfl⟩
  obtain ⟨p, PN⟩ : ∃ z, Hid (d.2.2.2.2.1 = z) := ⟨_, rfl⟩
  obtain ⟨f, FN⟩ : ∃ z, Hid (d.2.2.2.2.2 = z) := ⟨_, rfl⟩
  rw [NC.out, NL.out, RN.out, BN.out, PN.out, FN.out]
  have HL := hide hle
  have a1 := hle.1; have a2 := hle.2.1
  have h24 := hd.n2
  rw [NC.out] at a1 h24
  have HD := hide hd
  clear h hle hd
  obtain ⟨W0, hW0⟩ : ∃ W0, Hid (W0 = w.alloc (.cells #[.slice Ac nc cc, .slice Al nl cl, .int .i64 r, .int .i64 b, .int .i64 p, .int .i64 f] 59)) := ⟨_, rfl⟩
  have X0 : Hid (Ext w W0) := by rw [hW0.out]; exact Ext.alloc w _
  have B0 : Hid (Blk W0 w.heap.size #[.slice Ac nc cc, .slice Al nl cl, .int .i64 r, .int .i64 b, .int .i64 p, .int .i64 f] 59) := by rw [hW0.out]; exact Blk.new rfl _ _
  have c0 := B0.out.cell
  rw [hW0.out] at c0
  go_enter Try.func86, Try.ntmps86
  go_wp2_with (at_make; rw [← hW0.out]; refine wpList_make_full _ rfl _ _ _ rfl W0.heap.size 3 i0 _ 1 Try.underlying51 HI0.out HZ0.out HZ1.out _ _ _ _ 5 rfl rfl rfl rfl ?c1 ?c2 ?c3 ?_)
  case c1 => rw [HZ.out]; omega
  case c2 => unfold maxLen; omega
  case c3 => exact Nat.le_refl _
  intro w2 hown hgrow
  clear hW0 c0
  rw [made_zeroR] at hown
  have hb1 : Ext W0 w2 := (Ext.refl W0).grown hgrow (Nat.le_refl _) (by simp)
  have O1 : Hid (OwnI 3 w2 W0.heap.size (some ⟨W0.heap.size, 0, none⟩) 5 5 (szL d 0)) := hown
  obtain ⟨g, hg⟩ : ∃ g, Hid (g = W0.heap.size) := ⟨_, rfl⟩
  rw [← hg.out] at O1
  rw [← hg.out]
  have O1g : Hid (OwnI 3 w2 g (some ⟨g, 0, none⟩) 5 5 (szL d 0)) := by rw [hg.out]; exact hown
  have gl : W0.heap.size ≤ g := by rw [hg.out]; exact Nat.le_refl _
  have z0 := X0.out.size
  have gw : g < w2.heap.size := by
    rcases OwnI.form O1.out with ⟨h, _⟩ | ⟨g', h, _, h2, _⟩
    · cases h
    · injection h with h; injection h with h; omega
  have X2 := hide hb1
  have B2 := hide (B0.out.ext hb1)
  clear hown hgrow hb1
  have cB := B2.out.cell
  go_wp2
  clear cB
  go_loopw [10] (fun i wr => ∃ (k : Nat), k ≤ nc ∧ i = .int .i64 k ∧ OwnI 3 wr g (some ⟨g, 0, none⟩) 5 5 (szL d k) ∧ Ext W0 wr) (fun i _ => nc - (intOf i).toNat)
  case atStart => exact ⟨0, Nat.zero_le _, rfl, O1g.out, X2.out⟩
  case round =>
    obtain ⟨k, hk, rfl, ho, hx⟩ := hrel
    clear O1 O1g X2
    have OK := hide ho
    have HX := hide hx
    clear ho hx
    by_cases hlt : k < nc
    · obtain ⟨x, hxk⟩ : ∃ x, Hid (d.1[k]? = some x) := get_ex d.1 k (by rw [NC.out]; exact hlt)
      obtain ⟨bb, off, rfl, hbb, q0, q1, q2, q3, _⟩ := (HL.out.ext (X0.out.trans HX.out) (Nat.le_refl _)).element k x hxk.out
      have eb := elB_ok (HD.out.els k x hxk.out)
      have FE := famE_eq hxk.out
      obtain ⟨fa, hfa⟩ : ∃ fa : Nat, x.2.1 = (fa : Int) := ⟨x.2.1.toNat, by omega⟩
      have f5 : fa < 5 := by omega
      have FE : Hid (famE d k = fa) := by show _ = _; rw [FE, hfa, Int.toNat_natCast]
      have SS := hide (szL_succ FE.out f5)
      have sb := szA_bd d k fa
      obtain ⟨W1, hW1⟩ : ∃ W1, Hid (W1 = wr.alloc (.cells #[.string (bs x.1), .int .i64 x.2.1, .int .i64 x.2.2.1, .int .i64 x.2.2.2] 109)) := ⟨_, rfl⟩
      have XW : Hid (Ext wr W1) := by rw [hW1.out]; exact Ext.alloc _ _
      have BW : Hid (Blk W1 wr.heap.size #[.string (bs x.1), .int .i64 x.2.1, .int .i64 x.2.2.1, .int .i64 x.2.2.2] 109) := by rw [hW1.out]; exact Blk.new rfl _ _
      have O2 := hide (OwnI.below OK.out XW.out (Nat.le_refl _))
      have cO := O2.out.cell fa f5
      rw [szL_at d k f5] at cO
      have fO := O2.out.free fa
      have cW := BW.out.cell
      rw [hfa] at cW q1 hW1
      have YS : Hid (Ext W0 (W1.setCell ⟨g, fa, none⟩ (.int .i64 (szA d k fa + 1)))) := Below.setCell (HX.out.trans XW.out) (by simpa using gl) _
      have O6 : Hid (OwnI 3 (W1.setCell ⟨g, fa, none⟩ (.int .i64 (szA d k fa + 1))) g (some ⟨g, 0, none⟩) 5 5 (szL d (k + 1))) := by
        rw [SS.out]
        exact O2.out.set fa _
      rw [hW1.out] at cO fO cW
      generalize bs x.1 = x0 at *
      generalize x.2.2.1 = x2 at *
      generalize x.2.2.2 = x3 at *
      generalize szA d k fa = S at *
      clear hfa eb
      go_wp2
      rw [← hW1.out]
      clear hW1 q0 q1 q2 q3 cO fO cW
      generalize W1.setCell ⟨g, fa, none⟩ (.int .i64 (S + 1)) = w6 at *
      go_roundw
      case rel => exact ⟨k + 1, by omega, by go_num, O6.out, YS.out⟩
      case measure => simp [intOf]; omega
    · have ek : nc = k := by omega
      subst ek
      go_wp2
      go_ret
      exact ⟨_, _, rfl, OwnI.lower OK.out (by omega), X0.out.trans HX.out⟩
end Go.Proofs.Ytmckompikbechaa
