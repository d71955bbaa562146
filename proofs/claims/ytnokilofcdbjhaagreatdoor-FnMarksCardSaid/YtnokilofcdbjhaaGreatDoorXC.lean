/- A row of numbers as a text: the program's. -/
import Derived.Test.YtnokilofcdbjhaaGreatDoorXA
import Derived.Test.YtnokilofcdbjhaaGreatDoorXSh
import Derived.Lib.ItoaMem
import Derived.Lib.Join
import Derived.Deep.RegionLaw
namespace Go.Proofs.YtnokilofcdbjhaaGreatDoor
open Go.RowKit Go.Sort
set_option linter.unusedVariables false

/-- A listed table outlives new memory. -/
theorem tabX {P : Program} {w w' : World} {name : String} {k : IntKind} {zs : List Int} (h : Lib.TabIs P w name k zs) (x : Ext w w') : Lib.TabIs P w' name k zs := by
  unfold Lib.TabIs World.var? at *
  cases hg : P.globalNamed name with
  | none => simp [hg] at h
  | some g =>
    simp only [hg, Option.bind_some] at h ⊢
    have hlt : g < w.heap.size := by
      rcases Nat.lt_or_ge g w.heap.size with h' | h'
      · exact h'
      · rw [Array.getElem?_eq_none h'] at h; simp at h
    rw [Below.block x g hlt]
    exact h
theorem ext_grow (w : World) (os : Array Obj) : Ext w (grow w os) :=
  ⟨rfl, rfl, rfl, by simp [grow], fun k hk => by simp [grow, Array.getElem?_append_left hk]⟩
def Tab10 (w : World) : Prop := Lib.TabIs Tryz.prog w "internal/strconv.uint64pow10" .u64 Lib.pow10Tab
theorem Tab10.ext {w w' : World} (h : Tab10 w) (x : Ext w w') : Tab10 w' := tabX h x
theorem info_strX : (Tryz.prog.info? 9).map (fun i => (i.zero, i.size, i.bytes)) = some (some (.string (bs [])), 1, 16) := by kernel_rfl
theorem elem_strX : Elem Tryz.prog 73 9 16 := Elem.mk Tryz.underlying73 info_strX rfl
theorem one_strX (x : List UInt8) : ∀ u ∈ [Value.string (bs x)], u.oneCell' = true := by
  intro u hu
  simp at hu
  subst hu
  simp [Value.oneCell']
/-- The words of a row. -/
theorem row_join (h : UInt8) (l : List Int) (hl : l ≠ []) : h :: 32 :: (Lib.join (l.map Lib.itoa) [32] ++ [10]) = rowT h l := by
  cases l with
  | nil => exact absurd rfl hl
  | cons x r =>
    rw [List.map_cons, Lib.join_cons]
    have : Lib.joinTail [32] (r.map Lib.itoa) = r.flatMap (fun n => 32 :: Lib.itoa n) := by
      unfold Lib.joinTail
      rw [List.map_map, List.flatMap_def]
      rfl
    rw [this, rowT, List.flatMap_cons]
    simp
theorem rowT_len (h : UInt8) {l : List Int} (hr : ∀ x ∈ l, x.natAbs ≤ 1000) : (rowT h l).length ≤ 2 + 1003 * l.length := by
  have : (l.flatMap (fun n => 32 :: Lib.itoa n)).length ≤ 1003 * l.length := by
    induction l with
    | nil => simp
    | cons x r ih =>
      have h1 := ih (fun y hy => hr y (List.mem_cons_of_mem _ hy))
      have h2 := itoa_len (hr x (List.mem_cons_self ..))
      rw [List.flatMap_cons, List.length_append, List.length_cons, List.length_cons]
      omega
  rw [rowT]
  simp only [List.length_cons, List.length_append, List.length_nil]
  omega
theorem i.itoa_m (n : Int) (w : World) (h : n.natAbs ≤ 1000) (ht : Tab10 w) : Calls Tryz.prog 60 #[.int .i64 n] w fun e w' => e = .returned (.string (bs (Lib.itoa n))) ∧ Ext w w' :=
  (strconv_Itoa n (by omega) (by omega) w ht).mono fun e w' ⟨h1, k, os, h2⟩ => ⟨h1, by rw [h2]; exact (Ext.drewN w k).trans (ext_grow _ os)⟩

set_option maxRecDepth 100000 in
set_option maxHeartbeats 2000000 in
theorem i.numbersText_m (w : World) (A : Option Addr) (c B : Nat) (xs : List Int) (hl : LR kdInt w B A c xs) (hB : B ≤ w.heap.size) (hn : xs.length ≤ 16) (hr : ∀ x ∈ xs, x.natAbs ≤ 1000) (ht : Tab10 w) :
    Calls Tryz.prog 28 #[.slice A xs.length c] w fun e w' => e = .returned (.string (bs (Lib.join (xs.map Lib.itoa) [32]))) ∧ Ext w w' := by
  have HL := hide hl
  have HR := hide hr
  have HT := hide ht
  have a1 := hl.1; have a2 := hl.2.1
  clear hl hr ht
  obtain ⟨n, hxn⟩ : ∃ n, Hid (xs.length = n) := ⟨_, rfl⟩
  obtain ⟨S, hS⟩ : ∃ S, Hid (bs (Lib.join (xs.map Lib.itoa) [32]) = S) := ⟨_, rfl⟩
  rw [hS.out]
  rw [hxn.out] at hn a1 ⊢
  have O0 := hide (Own.empty w 9 (Nat.le_refl _))
  have X0 := hide (Ext.alloc w (.cells #[] 9))
  obtain ⟨w0, hw0⟩ : ∃ w0, Hid (w0 = w.alloc (.cells #[] 9)) := ⟨_, rfl⟩
  rw [← hw0.out] at O0 X0
  go_enter Tryz.func28, Tryz.ntmps28
  go_wp2
  rw [← hw0.out]
  clear hw0
  go_loopw [3, 9] (fun s3 s9 wr => ∃ (k : Nat) (A3 : Option Addr) (c3 : Nat), k ≤ n ∧ s9 = .int .i64 k ∧ s3 = .slice A3 k c3 ∧ Own 9 wr w.heap.size A3 k c3 ((xs.take k).map fun x => Value.string (bs (Lib.itoa x))) ∧ Ext w wr) (fun _ i _ => n - (intOf i).toNat)
  case atStart => exact ⟨0, some ⟨w.heap.size, 0, none⟩, 0, Nat.zero_le _, rfl, rfl, O0.out, X0.out⟩
  case round =>
    clear O0 X0
    obtain ⟨k, A3, c3, hk, rfl, rfl, ho, hx⟩ := hrel
    have HO := hide ho
    have HX := hide hx
    clear ho hx
    by_cases hlt : k < n
    · obtain ⟨x, hxk⟩ : ∃ x, Hid (xs[k]? = some x) := ⟨_, List.getElem?_eq_getElem (by rw [hxn.out]; exact hlt)⟩
      obtain ⟨b, off, cs, rfl, hb, hcs, hc⟩ := (HL.out.ext HX.out hB).2.2 k x hxk.out
      obtain rfl : cs = [.int .i64 x] := hcs
      have q1 := hc 0 _ rfl
      rw [show off + (k * kdInt.size + 0) = off + k from by show off + (k * 1 + 0) = off + k; omega] at q1
      clear hc
      have hx1 := HR.out x (List.mem_of_getElem? hxk.out)
      have IT := hide (i.itoa_m x wr hx1 (HT.out.ext HX.out))
      have iz : (k : Int) < (n : Int) := by omega
      have HM : Hid ((xs.take k).map (fun x => Value.string (bs (Lib.itoa x))) ++ [Value.string (bs (Lib.itoa x))] = (xs.take (k + 1)).map (fun x => Value.string (bs (Lib.itoa x)))) := by
        show _ = _
        rw [List.take_add_one, hxk.out]; simp
      generalize Lib.itoa x = D at IT HM
      generalize (xs.take k).map (fun x => Value.string (bs (Lib.itoa x))) = vs at HO HM
      go_wp2_with fail
      refine IT.out.mono ?_
      rintro e w1 ⟨rfl, x1⟩
      have HO1 := hide (HO.out.below x1 (Nat.le_refl _))
      have HX1 := hide (HX.out.trans x1)
      clear x1 HO HX q1
      go_wp2_with (at_builtin; refine wpList_append_sl rfl (.tmp 13) (.tmp 16) rfl elem_strX rfl rfl (lo := w.heap.size) (Own.alloc HO1.out (.cells #[.string (bs D)] 9)) (Sl.one w1 (.string (bs D)) 9) (one_strX _) (by omega) (by omega) (by have := HX1.out.size; simp; omega) ?_)
      intro A5 c5 w5 hap
      have O5 := hide hap.own
      have X5 := hide (hap.ext (HX1.out.trans (Ext.alloc _ _)) (HO1.out.fromLo))
      clear hap
      go_wp2
      go_roundw
      case rel => exact ⟨k + 1, A5, c5, by omega, by go_num, rfl, by rw [← HM.out]; exact O5.out, X5.out⟩
      case measure => simp [intOf]; omega
    · obtain rfl : k = n := by omega
      rw [List.take_of_length_le (by rw [hxn.out]; exact Nat.le_refl _)] at HO
      have JN : Hid (Calls Tryz.prog 61 #[.slice A3 k c3, .string ⟨#[32]⟩] wr fun e w' => e = .returned (.string S) ∧ Ext wr w') := by
        rcases Nat.eq_zero_or_pos k with hz | hp
        · subst hz
          obtain rfl : xs = [] := List.eq_nil_of_length_eq_zero hxn.out
          refine (strings_Join_none A3 c3 ⟨#[32]⟩ wr).mono ?_
          rintro e w' ⟨rfl, rfl⟩
          exact ⟨by rw [← hS.out]; rfl, Ext.refl _⟩
        · obtain ⟨g, rfl, hg1, hg2, hg3⟩ := HO.out.pos hp
          have e1 : (xs.map fun x => bs (Lib.itoa x)).map (·.data.toList) = xs.map Lib.itoa := by
            rw [List.map_map]; apply List.map_congr_left; intro x _; rfl
          have := strings_Join g 0 c3 (xs.map fun x => bs (Lib.itoa x)) ⟨#[32]⟩ wr (fun j x hj => by
            have hj2 : j < k := by have := (List.getElem?_eq_some_iff.1 hj).1; rw [List.length_map, hxn.out] at this; exact this
            rw [show (0 + j) = j by omega, HO.out.cell j hj2]
            rw [List.getElem?_map] at hj ⊢
            cases hq : xs[j]? with
            | none => rw [hq] at hj; cases hj
            | some y => rw [hq] at hj; simp at hj; subst hj; rfl) hg2 (by rw [List.length_map, hxn.out]; omega) (by rw [List.length_map, hxn.out]; exact hg3) (by
            rw [e1]
            have h1 := rowT_len 0 (l := xs) HR.out
            have h2 := row_join 0 xs (by rintro rfl; have := hxn.out; simp at this; omega)
            rw [← h2] at h1
            show (Lib.join (xs.map Lib.itoa) [32]).length ≤ _
            simp only [List.length_cons, List.length_append, List.length_nil] at h1
            rw [hxn.out] at h1
            omega)
          rw [List.length_map, hxn.out, e1] at this
          refine this.mono ?_
          rintro e w' ⟨rfl, hb⟩
          exact ⟨by rw [← hS.out]; rfl, hb⟩
      clear hS
      go_wp2_with fail
      refine JN.out.mono ?_
      rintro e w' ⟨rfl, x1⟩
      have X9 := hide (HX.out.trans x1)
      clear x1
      go_wp2
      go_ret
      exact ⟨rfl, X9.out⟩
end Go.Proofs.YtnokilofcdbjhaaGreatDoor
