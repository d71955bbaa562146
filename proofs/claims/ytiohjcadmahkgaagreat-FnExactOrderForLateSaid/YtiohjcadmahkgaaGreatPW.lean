/- Late as the rule says. -/
import Derived.Test.YtiohjcadmahkgaaGreatPV
namespace Go.Proofs.YtiohjcadmahkgaaGreat
open Go.RowKit Go.Sort
set_option linter.unusedVariables false

def lateAt (xs : List ItD) (i : Nat) : Bool := (xs.getD i noItem).2.2 == decide ((xs.length : Int) ≤ 2 * (i : Int))
theorem lateB_eq (xs : List ItD) : lateB xs = (List.range xs.length).all (lateAt xs) := rfl

set_option maxRecDepth 100000 in
set_option maxHeartbeats 2000000 in
theorem s.pgHalf_m (w : World) (A : Option Addr) (c B : Nat) (xs : List ItD) (hi : LR kdItem w B A c xs) (hB : B ≤ w.heap.size) (h14 : xs.length ≤ 14) :
    Calls Tryz.prog 78 #[.slice A xs.length c] w fun e w' => e = .returned (.bool (lateB xs)) ∧ Ext w w' := by
  have H := hide hi
  have a1 := hi.1; have a2 := hi.2.1
  clear hi
  obtain ⟨n, hn⟩ : ∃ n, Hid (xs.length = n) := ⟨_, rfl⟩
  obtain ⟨R, hR⟩ : ∃ R, Hid (lateB xs = R) := ⟨_, rfl⟩
  have LE := hide (lateB_eq xs)
  rw [hn.out] at h14 a1 LE ⊢
  rw [hR.out]
  go_enter Tryz.func78, Tryz.ntmps78
  go_wp2
  go_loopw [7] (fun i0 wr => ∃ (k : Nat), k ≤ n ∧ i0 = .int .i64 k ∧ ((List.range n).take k).all (lateAt xs) = true ∧ Ext w wr) (fun i0 _ => n - (intOf i0).toNat)
  case atStart => exact ⟨0, Nat.zero_le _, rfl, rfl, Ext.refl _⟩
  case round =>
    obtain ⟨k, hk, rfl, hall, hx⟩ := hrel
    have HA := hide hall
    have HX := hide hx
    clear hall hx
    by_cases hlt : k < n
    · obtain ⟨x, hxk⟩ : ∃ x, Hid (xs[k]? = some x) := get_exP xs k (by rw [hn.out]; exact hlt)
      obtain ⟨bb, off, A1, c1, A2, c2, rfl, hbb, q0, q1, q2, r1, r2⟩ := (H.out.ext HX.out hB).item k x hxk.out
      have RK := hide (List.getElem?_range hlt)
      have LA : Hid (lateAt xs k = (x.2.2 == decide ((n : Int) ≤ 2 * (k : Int)))) := by show _ = _; unfold lateAt; rw [List.getD_eq_getElem?_getD, hxk.out, Option.getD_some, hn.out]
      have XN := hide (HX.out.trans (Ext.alloc wr (.cells #[.slice A1 x.1.length c1, .slice A2 x.2.1.length c2, .bool x.2.2] 53)))
      clear r1 r2
      generalize x.1.length = m1 at *
      generalize x.2.1.length = m2 at *
      generalize x.2.2 = m3 at *
      cases m3 <;> by_cases h2 : (n : Int) ≤ 2 * (k : Int)
      · have HF : Hid (R = false) := by show _ = _; rw [← hR.out, LE.out]; exact allL_stop RK.out (by rw [LA.out]; simp [h2])
        go_wp2
        go_ret
        exact ⟨ret_bool HF.out.symm, XN.out⟩
      · have HN : Hid (lateAt xs k = true) := by show _ = _; rw [LA.out]; simp [h2]
        go_wp2
        go_roundw
        case rel => exact ⟨k + 1, by omega, by go_num, allL_step RK.out HA.out HN.out, XN.out⟩
        case measure => simp [intOf]; omega
      · have HN : Hid (lateAt xs k = true) := by show _ = _; rw [LA.out]; simp [h2]
        go_wp2
        go_roundw
        case rel => exact ⟨k + 1, by omega, by go_num, allL_step RK.out HA.out HN.out, XN.out⟩
        case measure => simp [intOf]; omega
      · have HF : Hid (R = false) := by show _ = _; rw [← hR.out, LE.out]; exact allL_stop RK.out (by rw [LA.out]; simp [h2])
        go_wp2
        go_ret
        exact ⟨ret_bool HF.out.symm, XN.out⟩
    · have HF : Hid (R = true) := by show _ = _; rw [← hR.out, LE.out]; exact allL_end (by rw [List.length_range]; omega) HA.out
      go_wp2
      go_ret
      exact ⟨ret_bool HF.out.symm, HX.out⟩
end Go.Proofs.YtiohjcadmahkgaaGreat
