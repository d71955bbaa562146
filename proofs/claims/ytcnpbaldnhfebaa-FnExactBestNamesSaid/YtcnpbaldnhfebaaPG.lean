/- PlanBound. -/
import Derived.Test.YtcnpbaldnhfebaaPF
namespace Go.Proofs.Ytcnpbaldnhfebaa
open Go.RowKit Go.Sort
set_option linter.unusedVariables false

theorem i.isCount_any (z : Int) (w : World) : Calls Try.prog 28 #[.int .i64 z] w fun e w' => e = .returned (.bool (inB 1 14 z)) ∧ w = w' := by
  go_enter Try.func28, Try.ntmps28
  go_wp2_with (go_at_call 48; refine (i.within_any _ _ _ _).mono ?_; rintro e w' ⟨rfl, rfl⟩)
  go_ret
  exact ⟨rfl, rfl⟩
def askB (d : CoD) (n : Int) : Bool := codeB d && inB 1 14 n
theorem inB_ok {lo hi n : Int} (h : inB lo hi n = true) : lo ≤ n ∧ n ≤ hi := by
  simpa only [inB, Bool.and_eq_true, decide_eq_true_eq] using h
set_option maxRecDepth 100000 in
theorem s.pnAsked_m (w : World) (v : Value) (d : CoD) (n : Int) (h : kC.rd w v d) (hok : kC.ok d) :
    Calls Try.prog 44 #[v, .int .i64 n] w fun e w' => e = .returned (.bool (askB d n)) ∧ Ext w w' := by
  obtain ⟨Ac, nc, cc, Al, nl, cl, r, b, p, f, rfl⟩ := kC.shape h
  obtain ⟨W0, hW0⟩ : ∃ W0, Hid (W0 = w.alloc (.cells #[.slice Ac nc cc, .slice Al nl cl, .int .i64 r, .int .i64 b, .int .i64 p, .int .i64 f] 31)) := ⟨_, rfl⟩
  have X0 : Hid (Ext w W0) := by rw [hW0.out]; exact Ext.alloc w _
  have CQ := hide (s.cdGood_m W0 _ d (kC.rd_ext h X0.out) hok)
  clear h
  obtain ⟨R, hR⟩ : ∃ R, Hid (askB d n = R) := ⟨_, rfl⟩
  rw [hR.out]
  go_enter Try.func44, Try.ntmps44
  go_wp2_with fail
  rw [← hW0.out]
  clear hW0
  refine CQ.out.mono ?_
  rintro e w1 ⟨rfl, x1⟩
  have X1 := hide (X0.out.trans x1)
  clear x1 CQ X0
  cases hc : codeB d
  · have HR : Hid (R = false) := by show _ = _; rw [← hR.out]; simp [askB, hc]
    clear hc
    go_wp2
    go_ret
    exact ⟨ret_bool HR.out.symm, X1.out⟩
  · have HR : Hid (R = inB 1 14 n) := by show _ = _; rw [← hR.out]; simp [askB, hc]
    clear hc
    go_wp2_with (go_at_call 68; refine (s.l1In_any _ _ _ _).mono ?_; rintro e w' ⟨rfl, rfl⟩)
    go_ret
    exact ⟨ret_bool HR.out.symm, X1.out⟩

theorem own_snoc {e : TypeId} {w : World} {lo m c : Nat} {A : Option Addr} {zs : List Int} {z : Int} (h : Own e w lo A (m + 1) c (zs.map (Value.int .i64) ++ [.int .i64 z])) : OwnI e w lo A (m + 1) c (zs ++ [z]) := own_conv h (Nat.le_refl _) rfl (by rw [List.map_append]; rfl)
theorem repl_snoc (zs : List Int) (j : Nat) (z : Int) : (zs ++ List.replicate j z) ++ [z] = zs ++ List.replicate (j + 1) z := by rw [List.append_assoc, List.replicate_succ']

theorem tailS_bd {ys : List Int} (h : ∀ z ∈ ys, 0 ≤ z ∧ z ≤ 2000) (m k : Nat) : 0 ≤ tailS ys m k ∧ tailS ys m k ≤ 2000 * (ys.length : Int) := by
  unfold tailS
  have h1 := take_bd (l := (ys.take k).drop (ys.length - m)) (fun z hz => h z (List.mem_of_mem_take (List.mem_of_mem_drop hz)))
  have h2 : ((ys.take k).drop (ys.length - m)).length ≤ ys.length := by simp; omega
  omega
end Go.Proofs.Ytcnpbaldnhfebaa
