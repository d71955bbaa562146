/- New sheets: what they are, and how little they weigh. -/
import Derived.Test.YtofmfagdaiphaaaNW
import Derived.Test.YtofmfagdaiphaaaCT
import Derived.Test.YtofmfagdaiphaaaGQ
namespace Go.Proofs.Ytofmfagdaiphaaa
open Go.RowKit Go.Sort
set_option linter.unusedVariables false

theorem kdSh.mkOwn {w : World} {d : ShD} {A A' D : Option Addr} {c c' e : Nat} {f1 f2 f3 : List Nat} (h1 : LO kdItem 50 w A c d.1 f1) (h2 : LO kdLL 43 w A' c' d.2.1 f2) (h3 : LO kdRv 30 w D e d.2.2 f3) (d12 : ∀ i ∈ f1, i ∉ f2) (d13 : ∀ i ∈ f1, i ∉ f3) (d23 : ∀ i ∈ f2, i ∉ f3) :
    kdSh.own w [.slice A d.1.length c, .slice A' d.2.1.length c', .slice D d.2.2.length e] d (f1 ++ (f2 ++ f3)) := by
  have n23 : (f2 ++ f3).Nodup := by
    rw [List.nodup_append]
    exact ⟨h2.nodup, h3.nodup, fun a ha b hb e => d23 a ha (e ▸ hb)⟩
  refine ⟨[.slice A d.1.length c], [.slice A' d.2.1.length c', .slice D d.2.2.length e], f1, f2 ++ f3, rfl, ⟨A, c, rfl, h1⟩, ⟨[.slice A' d.2.1.length c'], [.slice D d.2.2.length e], f2, f3, rfl, ⟨A', c', rfl, h2⟩, ⟨D, e, rfl, h3⟩, rfl, n23⟩, rfl, ?_⟩
  rw [List.nodup_append]
  refine ⟨h1.nodup, n23, fun a ha b hb e => ?_⟩
  subst e
  rcases List.mem_append.1 hb with h | h
  · exact d12 a ha h
  · exact d13 a ha h
theorem elemN_votes : ElemN Try.prog 25 43 1 24 (.slice none 0 0) := ElemN.mk Try.underlying25 info_rows rfl
theorem elemN_rv : ElemN Try.prog 26 30 3 24 (.agg #[.int .i64 0, .int .i64 0, .int .i64 0]) := ElemN.mk Try.underlying26 info_review rfl

theorem kIt_open {w : World} {v : Value} {d : List ItD} (h : kIt.rd w v d) : ∃ A c, v = .slice A d.length c ∧ LR kdItem w w.heap.size A c d := by
  obtain ⟨vs, rfl, A, c, rfl, h⟩ := h
  exact ⟨A, c, rfl, h⟩
def votesN (xs : List ItD) : List (List Int) := xs.map (fun x => List.replicate x.1.length (-1))
def noSheet : ShD := ([], [], [])
def newF (xs : List ItD) : ShD × Bool := if cleanB xs then ((xs, List.replicate 3 (votesN xs), []), true) else (noSheet, false)
theorem wtL_leS {α : Type} (K : Kd α) (m : Nat) : ∀ (xs : List α), (∀ x ∈ xs, K.wt x ≤ m) → wtL K xs ≤ xs.length * (1 + m)
  | [], _ => Nat.zero_le _
  | x :: t, h => by
    have h1 := wtL_leS K m t (fun y hy => h y (by simp [hy]))
    have h2 := h x (by simp)
    show 1 + K.wt x + wtL K t ≤ (t.length + 1) * (1 + m)
    rw [Nat.add_mul]
    omega
theorem nameB_len {s : List UInt8} (h : nameB s = true) : s.length ≤ 5 := by
  simp only [nameB, inB, Bool.and_eq_true, decide_eq_true_eq] at h
  omega
theorem itemB_wt {x : ItD} (h : itemB x = true) : kdItem.wt x ≤ 21 := by
  have h0 := h
  obtain ⟨h1, h2, h3⟩ := itemB_ok h
  simp only [itemB, Bool.and_eq_true, List.all_eq_true] at h
  have h4 : kdSS.wt x.1 ≤ x.1.length * (1 + 5) := wtL_leS kdS 5 x.1 (fun y hy => by have := nameB_len (h.1.1.1 y hy); exact this)
  have h5 : kdL.wt x.2.1 = x.2.1.length := wtL_int _
  rw [kdItem.wt_eq]
  omega
theorem itemsB_wt {xs : List ItD} (h : itemsB xs = true) : xs.length ≤ 14 ∧ wtL kdItem xs ≤ 308 := by
  simp only [itemsB, Bool.and_eq_true, List.all_eq_true, decide_eq_true_eq] at h
  have h1 := wtL_leS kdItem 21 xs (fun x hx => itemB_wt (h.1 x hx))
  have h2 : xs.length ≤ 14 := by omega
  omega
theorem votesN_wt {xs : List ItD} (h : itemsB xs = true) : wtL kdL (votesN xs) ≤ 56 := by
  have h0 := h
  simp only [itemsB, Bool.and_eq_true, List.all_eq_true, decide_eq_true_eq] at h
  have h1 := wtL_leS kdL 3 (votesN xs) (fun y hy => by
    obtain ⟨x, hx, rfl⟩ := List.mem_map.1 hy
    have h2 : kdL.wt (List.replicate x.1.length (-1)) = (List.replicate x.1.length (-1 : Int)).length := wtL_int _
    have h3 := itemB_ok (h.1 x hx)
    rw [List.length_replicate] at h2
    omega)
  have h2 : (votesN xs).length = xs.length := by simp [votesN]
  have h3 := (itemsB_wt h0).1
  omega
theorem cleanB_items {xs : List ItD} (h : cleanB xs = true) : itemsB xs = true := by
  simp only [cleanB, Bool.and_eq_true] at h
  exact h.1
theorem newF_ok (xs : List ItD) : kSm.ok (newF xs).1 := by
  show kdSh.wt _ ≤ 1048576
  unfold newF
  split
  · rename_i h
    have h1 := cleanB_items h
    have h2 := itemsB_wt h1
    have h3 := votesN_wt h1
    rw [kdSh.wt_eq]
    have e1 : kdItS.wt xs = wtL kdItem xs := rfl
    have e2 : kdLLL.wt (List.replicate 3 (votesN xs)) = (1 + wtL kdL (votesN xs)) + ((1 + wtL kdL (votesN xs)) + ((1 + wtL kdL (votesN xs)) + 0)) := rfl
    have e3 : kdRvS.wt [] = 0 := rfl
    show kdItS.wt xs + kdLLL.wt (List.replicate 3 (votesN xs)) + kdRvS.wt [] ≤ _
    omega
  · exact Nat.zero_le _
theorem LO.emptyV (w : World) : LO kdLL 43 (w.alloc (.cells #[] 43)) (some ⟨w.heap.size, 0, none⟩) 0 [] [w.heap.size] :=
  ⟨[], [], Own.empty w 43 (Nat.zero_le _), rfl, rfl, by simp, rfl, by simp⟩
theorem LO.emptyR (w : World) : LO kdRv 30 (w.alloc (.cells #[] 30)) (some ⟨w.heap.size, 0, none⟩) 0 [] [w.heap.size] :=
  ⟨[], [], World.ownsRow_lit w #[] 0 (Nat.zero_le _) (by unfold maxLen; omega) rfl, rfl, rfl, by simp, rfl, by simp⟩
theorem own_rowLL {w : World} {c : Nat} {A : Option Addr} {zs : List (List Int)} {fp : List Nat} (h : LO kdL 42 w A c zs fp) {n : Nat} (hn : n = zs.length) : kdLL.own w [.slice A n c] zs fp := by
  subst hn
  exact ⟨A, c, rfl, h⟩
theorem kSm_fr {w : World} {lo : Nat} {d : ShD} {A A' D : Option Addr} {c c' e : Nat} {fp : List Nat} (h : kdSh.own w [.slice A d.1.length c, .slice A' d.2.1.length c', .slice D d.2.2.length e] d fp) (hf : ∀ i ∈ fp, lo ≤ i) : kSm.fr w lo w.heap.size (.agg #[.slice A d.1.length c, .slice A' d.2.1.length c', .slice D d.2.2.length e]) d :=
  ⟨_, fp, rfl, h, fun i hi => ⟨hf i hi, kdSh.own_lt h i hi⟩⟩
theorem kSm_none (w : World) (lo hi : Nat) : kSm.fr w lo hi (.agg #[.slice none 0 0, .slice none 0 0, .slice none 0 0]) noSheet :=
  ⟨_, _, rfl, kdSh.mkOwn (d := noSheet) (w := w) LO.none_ LO.none_ LO.none_ (by simp) (by simp) (by simp), by simp⟩
end Go.Proofs.Ytofmfagdaiphaaa
