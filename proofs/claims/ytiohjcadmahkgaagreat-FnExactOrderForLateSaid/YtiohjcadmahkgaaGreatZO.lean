/- A replaced item's gain: the program's function; the reference's parts. -/
import Derived.Test.YtiohjcadmahkgaaGreatZN
import Derived.Deep.RegionHeld3
namespace Go.Proofs.YtiohjcadmahkgaaGreat
open Go.RowKit Go.Sort
set_option linter.unusedVariables false

theorem nmLen {s : List UInt8} (h : nameB s = true) : s.length ≤ 5 := by
  simp only [nameB, inB, Bool.and_eq_true, decide_eq_true_eq] at h
  omega
theorem wtL_most {α : Type} (K : Kd α) (m : Nat) : ∀ (xs : List α), (∀ x ∈ xs, K.wt x ≤ m) → wtL K xs ≤ xs.length * (1 + m)
  | [], _ => Nat.zero_le _
  | x :: t, h => by
    have h1 := wtL_most K m t (fun y hy => h y (by simp [hy]))
    have h2 := h x (by simp)
    show 1 + K.wt x + wtL K t ≤ (t.length + 1) * (1 + m)
    rw [Nat.add_mul]
    omega
theorem itWt {x : ItD} (h : itemB x = true) : kdItem.wt x ≤ 21 := by
  have h0 := h
  obtain ⟨h1, h2, h3⟩ := itemB_ok h
  simp only [itemB, Bool.and_eq_true, List.all_eq_true] at h
  have h4 : kdSS.wt x.1 ≤ x.1.length * (1 + 5) := wtL_most kdS 5 x.1 (fun y hy => by have := nmLen (h.1.1.1 y hy); exact this)
  have h5 : kdL.wt x.2.1 = x.2.1.length := wtL_int _
  rw [kdItem.wt_eq]
  omega
theorem itsWt {xs : List ItD} (h : itemsB xs = true) : xs.length ≤ 14 ∧ wtL kdItem xs ≤ 308 := by
  simp only [itemsB, Bool.and_eq_true, List.all_eq_true, decide_eq_true_eq] at h
  have h1 := wtL_most kdItem 21 xs (fun x hx => itWt (h.1 x hx))
  have h2 : xs.length ≤ 14 := by omega
  omega
theorem itemB_one {nm : List UInt8} (h : nameB nm = true) : itemB (oneI nm) = true := by
  simp [itemB, oneI, h, inB]
theorem itemsB_set {xs : List ItD} {k : Nat} {y : ItD} (h : itemsB xs = true) (hy : itemB y = true) : itemsB (xs.set k y) = true := by
  simp only [itemsB, Bool.and_eq_true, List.all_eq_true, decide_eq_true_eq, List.length_set] at h ⊢
  refine ⟨fun x hx => ?_, h.2⟩
  rcases List.mem_or_eq_of_mem_set hx with hm | rfl
  · exact h.1 x hm
  · exact hy
theorem lateL_get (xs : List ItD) (i : Nat) (h : i < xs.length) : (lateL xs)[i]? = some (lateD xs.length i xs[i]) := lateL_at xs i h
theorem itemsB_late {xs : List ItD} (h : itemsB xs = true) : itemsB (lateL xs) = true := by
  simp only [itemsB, Bool.and_eq_true, List.all_eq_true, decide_eq_true_eq] at h ⊢
  refine ⟨fun x hx => ?_, by rw [lateL_len]; exact h.2⟩
  obtain ⟨i, hi⟩ := List.getElem?_of_mem hx
  have hl : i < xs.length := by have := (List.getElem?_eq_some_iff.1 hi).1; rwa [lateL_len] at this
  rw [lateL_get xs i hl] at hi
  injection hi with hi
  subst hi
  have := h.1 _ (List.getElem_mem hl)
  exact this
theorem itemsB_repl {xs : List ItD} {k : Nat} {nm : List UInt8} (h : itemsB xs = true) (hn : nameB nm = true) : itemsB (replL xs k nm) = true := itemsB_late (itemsB_set h (itemB_one hn))
theorem itemsB_wt1 {xs : List ItD} (h : itemsB xs = true) : wtL kdItem xs ≤ 1048576 := by have := itsWt h; omega
theorem bases_small {d : CoD} {xs : List ItD} (hd : CodeOk d) (ho : LsOk d xs) : Small (basesF d xs) := fun z hz => by
  have := basesN_bd hd ho xs.length z hz
  omega
theorem bases_sum {d : CoD} {xs : List ItD} (hd : CodeOk d) (ho : LsOk d xs) : 0 ≤ (basesF d xs).sum ∧ (basesF d xs).sum ≤ 140000 := by
  have h : ∀ (zs : List Int), (∀ z ∈ zs, 0 ≤ z ∧ z ≤ 10000) → 0 ≤ zs.sum ∧ zs.sum ≤ 10000 * (zs.length : Int) := by
    intro zs
    induction zs with
    | nil => intro _; simp
    | cons z t ih =>
      intro h
      have h1 := h z (by simp)
      have h2 := ih (fun y hy => h y (by simp [hy]))
      rw [List.sum_cons, List.length_cons]
      omega
  have h1 := h _ (basesN_bd hd ho xs.length)
  rw [basesN_len] at h1
  have := ho.n
  unfold basesF
  omega
theorem progB_ls {d : CoD} {xs : List ItD} (h : progB d xs = true) : LsOk d xs := lsOk (progB_code h).2 (progB_known h)
def gainR (d : CoD) (xs : List ItD) (k : Nat) (nm : List UInt8) : Int × Bool := if progB d (replL xs k nm) then (gainV d xs (replL xs k nm), true) else (0, false)

end Go.Proofs.YtiohjcadmahkgaaGreat
