/- Sheets' parts: clean items, names that are there, votes, reviews. -/
import Derived.Test.YtofmfagdaiphaaaGN
import Derived.BigQuiet
namespace Go.Proofs.Ytofmfagdaiphaaa
open Go.RowKit Go.Sort
set_option linter.unusedVariables false

def unmB (it : ItD) : Bool := it.2.1.all (inB 0 0)
theorem cleanB_eq (l : List ItD) : cleanB l = (itemsB l && l.all unmB) := rfl

set_option maxRecDepth 100000 in
set_option maxHeartbeats 2000000 in
theorem i.isUnmarked_any (w : World) (A : Option Addr) (c B : Nat) (xs : List ItD) (h : LR kdItem w B A c xs) (hB : B ≤ w.heap.size) (hwt : wtL kdItem xs ≤ 1048576) :
    Calls Try.prog 45 #[.slice A xs.length c] w fun e w' => e = .returned (.bool (cleanB xs)) ∧ Ext w w' := by
  have H := hide h
  have HW := hide hwt
  have hlen := wtL_len kdItem xs
  have a1 := h.1; have a2 := h.2.1
  have LST := hide (fun (w2 : World) (x2 : Ext w w2) => i.AreItems_any w2 A c B xs (h.ext x2 hB) (Nat.le_trans hB x2.size) hwt)
  obtain ⟨R, hR⟩ : ∃ R, Hid (cleanB xs = R) := ⟨_, rfl⟩
  rw [hR.out]
  obtain ⟨n, hn⟩ : ∃ n, Hid (xs.length = n) := ⟨_, rfl⟩
  rw [hn.out] at hlen a1 LST ⊢
  have n1 : n ≤ 1048576 := by omega
  clear h hwt hlen
  obtain ⟨iB, hiB⟩ : ∃ b, Hid (itemsB xs = b) := ⟨_, rfl⟩
  rw [hiB.out] at LST
  have HEND : Hid (xs.all unmB = true → R = iB) := fun h8 => by rw [← hR.out, cleanB_eq, h8, hiB.out]; simp
  have HSTOP : Hid (xs.all unmB = false → R = false) := fun h8 => by rw [← hR.out, cleanB_eq, h8]; simp
  have HNO : Hid (iB = false → R = false) := fun h8 => by rw [← hR.out, cleanB_eq, hiB.out, h8]; simp
  clear hR hiB
  go_enter Try.func45, Try.ntmps45
  have X0 := hide (Ext.refl w)
  go_wp2
  go_loopw [7] (fun i wr => ∃ (k : Nat), k ≤ n ∧ i = .int .i64 k ∧ (xs.take k).all unmB = true ∧ Ext w wr) (fun i _ => n - (intOf i).toNat)
  case atStart => exact ⟨0, Nat.zero_le _, rfl, rfl, X0.out⟩
  case round =>
    obtain ⟨k, hk, rfl, hall, hx⟩ := hrel
    have HA := hide hall
    have HX := hide hx
    clear hall hx
    by_cases hlt : k < n
    · obtain ⟨x, hxk⟩ : ∃ x, Hid (xs[k]? = some x) := ⟨_, List.getElem?_eq_getElem (by rw [hn.out]; exact hlt)⟩
      obtain ⟨b, off, A1, c1, A2, c2, rfl, hb, q0, q1, q2, r1, r2⟩ := (H.out.ext HX.out hB).item k x hxk.out
      have hsz := HX.out.size
      have hx2 := (kdItem.wt_le (Nat.le_trans (wtL_at kdItem xs k x hxk.out) HW.out)).2.1
      obtain ⟨W1, hW1⟩ : ∃ W1, Hid (W1 = wr.alloc (.cells #[.slice A1 x.1.length c1, .slice A2 x.2.1.length c2, .bool x.2.2] 50)) := ⟨_, rfl⟩
      have x1 : Ext wr W1 := by rw [hW1.out]; exact Ext.alloc _ _
      have AL := hide (i.allWithin_any A2 x.2.1.length c2 B x.2.1 0 0 W1 (r2.sl.ext x1 (by omega)) hx2)
      replace HX := hide (HX.out.trans x1)
      clear x1 r1 r2 hx2
      have e1 : x.2.1.all (inB 0 0) = unmB x := rfl
      rw [e1] at AL
      clear e1
      go_wp2_with fail
      rw [← hW1.out]
      clear hW1
      refine AL.out.mono ?_
      rintro e w2 ⟨rfl, rfl⟩
      cases hb2 : unmB x
      · have HN := hide hb2
        clear hb2
        go_wp2
        go_ret
        exact ⟨ret_bool (HSTOP.out (allL_stop hxk.out HN.out)).symm, HX.out⟩
      · have HN := hide hb2
        clear hb2
        go_wp2
        go_roundw
        case rel => exact ⟨k + 1, by omega, by go_num, allL_step hxk.out HA.out HN.out, HX.out⟩
        case measure => simp [intOf]; omega
    · have HE := hide (allL_end (by rw [hn.out]; omega) HA.out)
      go_wp2_with fail
      refine (LST.out wr HX.out).mono ?_
      rintro e w2 ⟨rfl, x2⟩
      replace HX := hide (HX.out.trans x2)
      clear x2
      go_wp2
      go_ret
      exact ⟨ret_bool (HEND.out HE.out).symm, HX.out⟩

set_option maxRecDepth 100000 in
set_option maxHeartbeats 2000000 in
theorem s.caClean_any (w : World) (A : Option Addr) (c B : Nat) (xs : List ItD) (h : LR kdItem w B A c xs) (hB : B ≤ w.heap.size) (hwt : wtL kdItem xs ≤ 1048576) :
    Calls Try.prog 55 #[.slice A xs.length c] w fun e w' => e = .returned (.bool (cleanB xs)) ∧ Ext w w' := by
  have H := hide h
  have HW := hide hwt
  have hlen := wtL_len kdItem xs
  have a1 := h.1; have a2 := h.2.1
  have LST := hide (fun (w2 : World) (x2 : Ext w w2) => s.itList_any w2 A c B xs (h.ext x2 hB) (Nat.le_trans hB x2.size) hwt)
  obtain ⟨R, hR⟩ : ∃ R, Hid (cleanB xs = R) := ⟨_, rfl⟩
  rw [hR.out]
  obtain ⟨n, hn⟩ : ∃ n, Hid (xs.length = n) := ⟨_, rfl⟩
  rw [hn.out] at hlen a1 LST ⊢
  have n1 : n ≤ 1048576 := by omega
  clear h hwt hlen
  obtain ⟨iB, hiB⟩ : ∃ b, Hid (itemsB xs = b) := ⟨_, rfl⟩
  rw [hiB.out] at LST
  have HEND : Hid (xs.all unmB = true → R = iB) := fun h8 => by rw [← hR.out, cleanB_eq, h8, hiB.out]; simp
  have HSTOP : Hid (xs.all unmB = false → R = false) := fun h8 => by rw [← hR.out, cleanB_eq, h8]; simp
  have HNO : Hid (iB = false → R = false) := fun h8 => by rw [← hR.out, cleanB_eq, hiB.out, h8]; simp
  clear hR hiB
  go_enter Try.func55, Try.ntmps55
  go_wp2_with fail
  refine (LST.out w (Ext.refl _)).mono ?_
  rintro e w0 ⟨rfl, x0⟩
  have X0 := hide x0
  clear x0
  cases iB
  · go_wp2
    go_ret
    exact ⟨ret_bool (by first | exact (HNO.out rfl).symm | exact (HNO.out trivial).symm), X0.out⟩
  have iR : Hid (xs.all unmB = true → R = true) := HEND.out
  go_wp2
  go_loopw [10] (fun i wr => ∃ (k : Nat), k ≤ n ∧ i = .int .i64 k ∧ (xs.take k).all unmB = true ∧ Ext w wr) (fun i _ => n - (intOf i).toNat)
  case atStart => exact ⟨0, Nat.zero_le _, rfl, rfl, X0.out⟩
  case round =>
    obtain ⟨k, hk, rfl, hall, hx⟩ := hrel
    have HA := hide hall
    have HX := hide hx
    clear hall hx
    by_cases hlt : k < n
    · obtain ⟨x, hxk⟩ : ∃ x, Hid (xs[k]? = some x) := ⟨_, List.getElem?_eq_getElem (by rw [hn.out]; exact hlt)⟩
      obtain ⟨b, off, A1, c1, A2, c2, rfl, hb, q0, q1, q2, r1, r2⟩ := (H.out.ext HX.out hB).item k x hxk.out
      have hsz := HX.out.size
      have hx2 := (kdItem.wt_le (Nat.le_trans (wtL_at kdItem xs k x hxk.out) HW.out)).2.1
      obtain ⟨W1, hW1⟩ : ∃ W1, Hid (W1 = wr.alloc (.cells #[.slice A1 x.1.length c1, .slice A2 x.2.1.length c2, .bool x.2.2] 50)) := ⟨_, rfl⟩
      have x1 : Ext wr W1 := by rw [hW1.out]; exact Ext.alloc _ _
      have AL := hide (s.l1All_any A2 x.2.1.length c2 B x.2.1 0 0 W1 (r2.sl.ext x1 (by omega)) hx2)
      replace HX := hide (HX.out.trans x1)
      clear x1 r1 r2 hx2
      have e1 : x.2.1.all (inB 0 0) = unmB x := rfl
      rw [e1] at AL
      clear e1
      go_wp2_with fail
      rw [← hW1.out]
      clear hW1
      refine AL.out.mono ?_
      rintro e w2 ⟨rfl, rfl⟩
      cases hb2 : unmB x
      · have HN := hide hb2
        clear hb2
        go_wp2
        go_ret
        exact ⟨ret_bool (HSTOP.out (allL_stop hxk.out HN.out)).symm, HX.out⟩
      · have HN := hide hb2
        clear hb2
        go_wp2
        go_roundw
        case rel => exact ⟨k + 1, by omega, by go_num, allL_step hxk.out HA.out HN.out, HX.out⟩
        case measure => simp [intOf]; omega
    · have HE := hide (allL_end (by rw [hn.out]; omega) HA.out)
      go_wp2
      go_ret
      exact ⟨ret_bool (iR.out HE.out).symm, HX.out⟩
end Go.Proofs.Ytofmfagdaiphaaa
