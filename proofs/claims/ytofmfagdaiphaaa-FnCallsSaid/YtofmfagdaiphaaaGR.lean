/- GR: RA, RM, RC, RD, RE, RF, RG, RH, RI, RJ in one text. -/
import Derived.Test.YtofmfagdaiphaaaGO
import Derived.Test.YtofmfagdaiphaaaGN
import Derived.Test.YtofmfagdaiphaaaGA
import Derived.BigQuiet
import Derived.IntWalk
import Derived.Deep.RegionHeld3
import Derived.Test.YtofmfagdaiphaaaGQ
/- Elements of a code, and lists of them: weighed, copied, compared, marked. -/
namespace Go.Proofs.Ytofmfagdaiphaaa
open Go.RowKit Go.Sort
set_option linter.unusedVariables false

abbrev ElD := List UInt8 × Int × Int × Int
def kdEl : Kd ElD := kdPair kdS (kdPair kdInt (kdPair kdInt kdInt))
def elV (d : ElD) : List Value := [.string (bs d.1), .int .i64 d.2.1, .int .i64 d.2.2.1, .int .i64 d.2.2.2]
theorem kdEl.open_ {w : World} {B : Nat} {vs : List Value} {d : ElD} (h : kdEl.rd w B vs d) : vs = [.string (bs d.1), .int .i64 d.2.1, .int .i64 d.2.2.1, .int .i64 d.2.2.2] ∧ d.1.length ≤ 9223372036854775807 := by
  obtain ⟨v1, v2, rfl, ⟨h1, hl⟩, v3, v4, rfl, h2, v5, v6, rfl, h3, h4⟩ := h
  have h2 : v3 = [.int .i64 d.2.1] := h2
  have h3 : v5 = [.int .i64 d.2.2.1] := h3
  have h4 : v6 = [.int .i64 d.2.2.2] := h4
  subst h1 h2 h3 h4
  exact ⟨rfl, hl⟩
theorem kdEl.mk_ (w : World) (B : Nat) (d : ElD) (hl : d.1.length ≤ 9223372036854775807) : kdEl.rd w B [.string (bs d.1), .int .i64 d.2.1, .int .i64 d.2.2.1, .int .i64 d.2.2.2] d :=
  ⟨[.string (bs d.1)], [.int .i64 d.2.1, .int .i64 d.2.2.1, .int .i64 d.2.2.2], rfl, ⟨rfl, hl⟩, [.int .i64 d.2.1], [.int .i64 d.2.2.1, .int .i64 d.2.2.2], rfl, rfl, [.int .i64 d.2.2.1], [.int .i64 d.2.2.2], rfl, rfl, rfl⟩
theorem kdEl.mkOwn (w : World) (d : ElD) (hl : d.1.length ≤ 9223372036854775807) : kdEl.own w [.string (bs d.1), .int .i64 d.2.1, .int .i64 d.2.2.1, .int .i64 d.2.2.2] d [] :=
  ⟨[.string (bs d.1)], [.int .i64 d.2.1, .int .i64 d.2.2.1, .int .i64 d.2.2.2], [], [], rfl, ⟨⟨rfl, hl⟩, rfl⟩, ⟨[.int .i64 d.2.1], [.int .i64 d.2.2.1, .int .i64 d.2.2.2], [], [], rfl, ⟨rfl, rfl⟩, ⟨[.int .i64 d.2.2.1], [.int .i64 d.2.2.2], [], [], rfl, ⟨rfl, rfl⟩, ⟨rfl, rfl⟩, rfl, by simp⟩, rfl, by simp⟩, rfl, by simp⟩
theorem kdEl.own_nil {w : World} {vs : List Value} {d : ElD} {f : List Nat} (h : kdEl.own w vs d f) : f = [] := by
  obtain ⟨v1, v2, f1, f2, _, ⟨_, e1⟩, ⟨v3, v4, f3, f4, _, ⟨_, e2⟩, ⟨v5, v6, f5, f6, _, ⟨_, e3⟩, ⟨_, e4⟩, e5, _⟩, e6, _⟩, e7, _⟩ := h
  rw [e7, e6, e5, e1, e2, e3, e4]; rfl
theorem kdEl.val4 (a b c e : Value) : kdEl.val [a, b, c, e] = .agg #[a, b, c, e] := rfl
theorem kdEl.wt_eq (d : ElD) : kdEl.wt d = d.1.length := by
  show d.1.length + (0 + (0 + 0)) = _
  omega
def noEl : ElD := ([], 0, 0, 0)
theorem kdEl.zero (w : World) : kdEl.own w [.string (bs []), .int .i64 0, .int .i64 0, .int .i64 0] noEl [] := kdEl.mkOwn w noEl (by decide)
theorem LR.element {w : World} {B c : Nat} {A : Option Addr} {xs : List ElD} (h : LR kdEl w B A c xs) (k : Nat) (x : ElD) (hx : xs[k]? = some x) : ∃ b off, A = some ⟨b, off, none⟩ ∧ b < B ∧ w.cell? ⟨b, off + k * 4, none⟩ = some (.string (bs x.1)) ∧ w.cell? ⟨b, off + k * 4 + 1, none⟩ = some (.int .i64 x.2.1) ∧ w.cell? ⟨b, off + k * 4 + 2, none⟩ = some (.int .i64 x.2.2.1) ∧ w.cell? ⟨b, off + k * 4 + 3, none⟩ = some (.int .i64 x.2.2.2) ∧ x.1.length ≤ 9223372036854775807 := by
  obtain ⟨b, off, cs, rfl, hb, hr, hc⟩ := h.2.2 k x hx
  obtain ⟨rfl, hl⟩ := kdEl.open_ hr
  exact ⟨b, off, rfl, hb, hc 0 _ rfl, hc 1 _ rfl, hc 2 _ rfl, hc 3 _ rfl, hl⟩

end Go.Proofs.Ytofmfagdaiphaaa

/- Elements marked. -/
namespace Go.Proofs.Ytofmfagdaiphaaa
open Go.RowKit Go.Sort
set_option linter.unusedVariables false

end Go.Proofs.Ytofmfagdaiphaaa

/- Codes: as a kind; weighed, copied, compared, marked. -/
namespace Go.Proofs.Ytofmfagdaiphaaa
open Go.RowKit Go.Sort
set_option linter.unusedVariables false

abbrev CoD := List ElD × List Int × Int × Int × Int × Int
end Go.Proofs.Ytofmfagdaiphaaa

/- Codes that are valid. -/
namespace Go.Proofs.Ytofmfagdaiphaaa
open Go.RowKit Go.Sort
set_option linter.unusedVariables false

def ltS (a b : List UInt8) : Bool := Op.bytesLess (bs a).toList (bs b).toList
def elB (x : ElD) : Bool := nameB x.1 && inB 0 4 x.2.1 && inB 0 4 x.2.2.1 && inB 1 2000 x.2.2.2
def upB (xs : List ElD) (i : Nat) : Bool := decide (i = 0) || ltS (xs.getD (i - 1) noEl).1 (xs.getD i noEl).1
def elAt (xs : List ElD) (i : Nat) : Bool := elB (xs.getD i noEl) && upB xs i
def codeB (d : CoD) : Bool := inB 1 24 (d.1.length : Int) && ((d.2.1.length : Int) == 5) && d.2.1.all (inB 0 9) && inB 1 3 d.2.2.1 && inB 0 20 d.2.2.2.1 && inB 50 100 d.2.2.2.2.1 && inB 0 500 d.2.2.2.2.2 && (List.range d.1.length).all (elAt d.1)
theorem getD_some {α : Type} {xs : List α} {k : Nat} {x z : α} (h : xs[k]? = some x) : xs.getD k z = x := by
  rw [List.getD_eq_getElem?_getD, h]; rfl
theorem elAt_some {xs : List ElD} {k : Nat} {x : ElD} (h : xs[k]? = some x) : elAt xs k = (elB x && upB xs k) := by
  unfold elAt; rw [getD_some h]
theorem upB_zero (xs : List ElD) : upB xs 0 = true := rfl
theorem upB_succ {xs : List ElD} {k : Nat} {x y : ElD} (hk : 0 < k) (hy : xs[k - 1]? = some y) (h : xs[k]? = some x) : upB xs k = ltS y.1 x.1 := by
  unfold upB; rw [getD_some h, getD_some hy]
  have : decide (k = 0) = false := by simp; omega
  rw [this]; rfl
end Go.Proofs.Ytofmfagdaiphaaa

/- Codes that are valid: the reference. -/
namespace Go.Proofs.Ytofmfagdaiphaaa
open Go.RowKit Go.Sort
set_option linter.unusedVariables false

end Go.Proofs.Ytofmfagdaiphaaa

/- The element with a name; lists of items whose names are known. -/
namespace Go.Proofs.Ytofmfagdaiphaaa
open Go.RowKit Go.Sort
set_option linter.unusedVariables false

theorem bs_toList (x : List UInt8) : (bs x).toList = x := Go.ByteArray.toList_mk x
def findF : List ElD → List UInt8 → Int
  | [], _ => -1
  | x :: t, nm => if x.1 == nm then 0 else if findF t nm < 0 then -1 else findF t nm + 1
def neN (nm : List UInt8) (x : ElD) : Bool := !(x.1 == nm)
theorem findF_hit {xs : List ElD} {nm : List UInt8} {k : Nat} {x : ElD} (hx : xs[k]? = some x) (h : (xs.take k).all (neN nm) = true) (h1 : (x.1 == nm) = true) : findF xs nm = k := by
  induction xs generalizing k with
  | nil => simp at hx
  | cons y t ih =>
    cases k with
    | zero => simp at hx; subst hx; simp [findF, h1]
    | succ k =>
      simp at hx
      simp only [List.take_succ_cons, List.all_cons, Bool.and_eq_true] at h
      have h2 : (y.1 == nm) = false := by have := h.1; simpa [neN] using this
      have h3 := ih hx h.2
      rw [findF, h2, h3]
      simp
      omega
theorem findF_none {xs : List ElD} {nm : List UInt8} (h : xs.all (neN nm) = true) : findF xs nm = -1 := by
  induction xs with
  | nil => rfl
  | cons y t ih =>
    simp only [List.all_cons, Bool.and_eq_true] at h
    have h2 : (y.1 == nm) = false := by have := h.1; simpa [neN] using this
    rw [findF, h2, ih h.2]
    simp
theorem findF_some {xs : List ElD} {nm : List UInt8} (h : 0 ≤ findF xs nm) : ∃ (k : Nat) (x : ElD), findF xs nm = k ∧ xs[k]? = some x ∧ x.1 = nm := by
  induction xs with
  | nil => simp [findF] at h
  | cons y t ih =>
    by_cases h2 : (y.1 == nm) = true
    · exact ⟨0, y, by simp [findF, h2], rfl, by simpa using h2⟩
    · rw [findF, if_neg h2] at h ⊢
      by_cases h3 : findF t nm < 0
      · rw [if_pos h3] at h; omega
      · rw [if_neg h3]
        obtain ⟨k, x, e1, e2, e3⟩ := ih (by omega)
        exact ⟨k + 1, x, by rw [e1]; omega, by simpa using e2, e3⟩
theorem findF_ge (xs : List ElD) (nm : List UInt8) : -1 ≤ findF xs nm := by
  by_cases h : 0 ≤ findF xs nm
  · omega
  · induction xs with
    | nil => simp [findF]
    | cons y t ih =>
      unfold findF
      split
      · omega
      · split <;> omega
theorem findF_lt (xs : List ElD) (nm : List UInt8) : findF xs nm < xs.length ∨ findF xs nm = -1 := by
  by_cases h : 0 ≤ findF xs nm
  · obtain ⟨k, x, e, hx, _⟩ := findF_some h
    have := (List.getElem?_eq_some_iff.1 hx).1
    omega
  · have := findF_ge xs nm; omega

end Go.Proofs.Ytofmfagdaiphaaa

/- Lists whose names are known; the worth of an element. -/
namespace Go.Proofs.Ytofmfagdaiphaaa
open Go.RowKit Go.Sort
set_option linter.unusedVariables false

def knownI (els : List ElD) (x : ItD) : Bool := x.1.all (fun nm => decide (0 ≤ findF els nm))
def knownB (els : List ElD) (xs : List ItD) : Bool := xs.all (knownI els)
theorem elB_ok {x : ElD} (h : elB x = true) : 0 ≤ x.2.1 ∧ x.2.1 ≤ 4 ∧ 0 ≤ x.2.2.1 ∧ x.2.2.1 ≤ 4 ∧ 1 ≤ x.2.2.2 ∧ x.2.2.2 ≤ 2000 := by
  simp only [elB, inB, Bool.and_eq_true, decide_eq_true_eq] at h
  omega
structure CodeOk (d : CoD) : Prop where
  n1 : 1 ≤ d.1.length
  n2 : d.1.length ≤ 24
  lim : d.2.1.length = 5
  limb : ∀ z ∈ d.2.1, 0 ≤ z ∧ z ≤ 9
  rep : 1 ≤ d.2.2.1 ∧ d.2.2.1 ≤ 3
  bon : 0 ≤ d.2.2.2.1 ∧ d.2.2.2.1 ≤ 20
  kep : 50 ≤ d.2.2.2.2.1 ∧ d.2.2.2.2.1 ≤ 100
  els : ∀ (k : Nat) (x : ElD), d.1[k]? = some x → elB x = true
theorem codeB_ok {d : CoD} (h : codeB d = true) : CodeOk d := by
  simp only [codeB, Bool.and_eq_true, beq_iff_eq, List.all_eq_true, List.mem_range] at h
  obtain ⟨⟨⟨⟨⟨⟨⟨h1, h2⟩, h3⟩, h4⟩, h5⟩, h6⟩, h7⟩, h8⟩ := h
  simp only [inB, Bool.and_eq_true, decide_eq_true_eq] at h1 h4 h5 h6 h7
  refine ⟨by omega, by omega, by omega, fun z hz => ?_, by omega, by omega, by omega, fun k x hx => ?_⟩
  · have := h3 z hz
    simp only [inB, Bool.and_eq_true, decide_eq_true_eq] at this
    exact this
  · have := h8 k (List.getElem?_eq_some_iff.1 hx).1
    rw [elAt_some hx, Bool.and_eq_true] at this
    exact this.1

/-! ### Worths -/
def worthE (kp : Int) (x : ElD) (mark : Int) : Int := if mark = 1 then x.2.2.2 * kp / 100 else if mark = 2 then x.2.2.2 * 9 / 10 else if mark = 3 then 0 else x.2.2.2
def worthN (d : CoD) (nm : List UInt8) (mark : Int) : Int := worthE d.2.2.2.2.1 (d.1.getD (findF d.1 nm).toNat noEl) mark
theorem worthE_bd {kp : Int} {x : ElD} (mark : Int) (hk : 0 ≤ kp ∧ kp ≤ 100) (hx : 0 ≤ x.2.2.2 ∧ x.2.2.2 ≤ 2000) : 0 ≤ worthE kp x mark ∧ worthE kp x mark ≤ 2000 := by
  unfold worthE
  have h0 : 0 ≤ x.2.2.2 * kp := Int.mul_nonneg hx.1 hk.1
  have h1 : x.2.2.2 * kp ≤ x.2.2.2 * 100 := Int.mul_le_mul_of_nonneg_left hk.2 hx.1
  split
  · constructor
    · exact Int.ediv_nonneg h0 (by decide)
    · omega
  · split
    · omega
    · split <;> omega
theorem worthN_bd {d : CoD} (hd : CodeOk d) (nm : List UInt8) (mark : Int) : 0 ≤ worthN d nm mark ∧ worthN d nm mark ≤ 2000 := by
  refine worthE_bd mark ⟨by have := hd.kep; omega, hd.kep.2⟩ ?_
  cases hx : d.1[(findF d.1 nm).toNat]? with
  | none => rw [List.getD_eq_getElem?_getD, hx]; exact ⟨by decide, by decide⟩
  | some x => rw [getD_some hx]; have := elB_ok (hd.els _ _ hx); omega

end Go.Proofs.Ytofmfagdaiphaaa

/- Worths of an item, its full base, its unit. -/
namespace Go.Proofs.Ytofmfagdaiphaaa
open Go.RowKit Go.Sort
set_option linter.unusedVariables false

def worthAt (d : CoD) (x : ItD) (i : Nat) : Int := worthN d (x.1.getD i []) (x.2.1.getD i 0)
def worthsN (d : CoD) (x : ItD) (k : Nat) : List Int := (List.range k).map (worthAt d x)
def worthsF (d : CoD) (x : ItD) : List Int := worthsN d x x.1.length
theorem worthsN_succ (d : CoD) (x : ItD) (k : Nat) : worthsN d x (k + 1) = worthsN d x k ++ [worthAt d x k] := by simp [worthsN, List.range_succ]
theorem worthsN_len (d : CoD) (x : ItD) (k : Nat) : (worthsN d x k).length = k := by simp [worthsN]
theorem worthsN_bd {d : CoD} (hd : CodeOk d) (x : ItD) (k : Nat) : ∀ z ∈ worthsN d x k, 0 ≤ z ∧ z ≤ 2000 := by
  intro z hz
  obtain ⟨i, _, rfl⟩ := List.mem_map.1 hz
  exact worthN_bd hd _ _
theorem sum_bd2 (zs : List Int) (h : ∀ z ∈ zs, 0 ≤ z ∧ z ≤ 2000) : 0 ≤ zs.sum ∧ zs.sum ≤ 2000 * (zs.length : Int) := by
  induction zs with
  | nil => simp
  | cons z t ih =>
    have h1 := h z (by simp)
    have h2 := ih (fun y hy => h y (by simp [hy]))
    rw [List.sum_cons, List.length_cons]
    omega
theorem sumW_bd {d : CoD} (hd : CodeOk d) (x : ItD) (k : Nat) : 0 ≤ (worthsN d x k).sum ∧ (worthsN d x k).sum ≤ 2000 * k := by
  have := sum_bd2 _ (worthsN_bd hd x k)
  rwa [worthsN_len] at this
def roundI (a b : Int) : Int := (2 * a + b) / (2 * b)
def fullF (d : CoD) (x : ItD) : Int := if x.2.2 then roundI ((worthsF d x).sum * (100 + d.2.2.2.1)) 100 else (worthsF d x).sum
def unitN (d : CoD) (x : ItD) (k : Nat) : Int := (worthsN d x k).foldl max 0
def unitF (d : CoD) (x : ItD) : Int := unitN d x x.1.length
theorem unitN_succ (d : CoD) (x : ItD) (k : Nat) : unitN d x (k + 1) = max (unitN d x k) (worthAt d x k) := by
  unfold unitN; rw [worthsN_succ, List.foldl_append]; rfl
theorem foldl_max_bd (zs : List Int) (a : Int) (h : ∀ z ∈ zs, 0 ≤ z ∧ z ≤ 2000) (ha : 0 ≤ a ∧ a ≤ 2000) : 0 ≤ zs.foldl max a ∧ zs.foldl max a ≤ 2000 := by
  induction zs generalizing a with
  | nil => exact ha
  | cons z t ih => exact ih _ (fun y hy => h y (by simp [hy])) (by have := h z (by simp); omega)
theorem unitN_bd {d : CoD} (hd : CodeOk d) (x : ItD) (k : Nat) : 0 ≤ unitN d x k ∧ unitN d x k ≤ 2000 := foldl_max_bd _ _ (worthsN_bd hd x k) (by omega)
theorem maxL_unit {d : CoD} (hd : CodeOk d) (x : ItD) : maxL (worthsF d x) = unitF d x := by
  unfold maxL unitF unitN worthsF
  have h := worthsN_bd hd x x.1.length
  cases hw : worthsN d x x.1.length with
  | nil => rfl
  | cons z t =>
    rw [hw] at h
    have h0 := h z (by simp)
    simp only [List.headD_cons, List.foldl_cons]
    congr 1
    omega
theorem fullF_bd {d : CoD} (hd : CodeOk d) (x : ItD) (h3 : x.1.length ≤ 3) : 0 ≤ fullF d x ∧ fullF d x ≤ 10000 := by
  have hs := sumW_bd hd x x.1.length
  have hb := hd.bon
  unfold fullF worthsF
  generalize (worthsN d x x.1.length).sum = s at *
  have h0 : 0 ≤ s * (100 + d.2.2.2.1) := Int.mul_nonneg hs.1 (by omega)
  have h1 : s * (100 + d.2.2.2.1) ≤ s * 120 := Int.mul_le_mul_of_nonneg_left (by omega) hs.1
  split
  · unfold roundI; omega
  · omega
/-- What an item must be for its worths to be read. -/
structure ItOk (d : CoD) (x : ItD) : Prop where
  n1 : 1 ≤ x.1.length
  n3 : x.1.length ≤ 3
  ml : x.2.1.length = x.1.length
  kn : ∀ (i : Nat) (nm : List UInt8), x.1[i]? = some nm → 0 ≤ findF d.1 nm
theorem itOk {d : CoD} {x : ItD} (h : itemB x = true) (h1 : knownI d.1 x = true) : ItOk d x := by
  obtain ⟨a, b, c⟩ := itemB_ok h
  refine ⟨a, b, c, fun i nm hi => ?_⟩
  simp only [knownI, List.all_eq_true, decide_eq_true_eq] at h1
  exact h1 nm (List.mem_of_getElem? hi)
theorem worthAt_some {d : CoD} {x : ItD} {i : Nat} {nm : List UInt8} {mk : Int} (h : x.1[i]? = some nm) (h' : x.2.1[i]? = some mk) : worthAt d x i = worthN d nm mk := by
  unfold worthAt; rw [getD_some h, getD_some h']
theorem LR.intAt {w : World} {B c : Nat} {A : Option Addr} {zs : List Int} (h : LR kdInt w B A c zs) (k : Nat) (z : Int) (hz : zs[k]? = some z) : ∃ b off, A = some ⟨b, off, none⟩ ∧ b < B ∧ w.cell? ⟨b, off + k, none⟩ = some (.int .i64 z) := by
  obtain ⟨b, off, cs, rfl, hb, rfl, hc⟩ := h.2.2 k z hz
  refine ⟨b, off, rfl, hb, ?_⟩
  have := hc 0 _ rfl
  rwa [show k * kdInt.size + 0 = k from by show k * 1 + 0 = k; omega] at this


def sumN (d : CoD) (x : ItD) (k : Nat) : Int := (worthsN d x k).sum
theorem sumN_succ (d : CoD) (x : ItD) (k : Nat) : sumN d x (k + 1) = sumN d x k + worthAt d x k := by unfold sumN; rw [worthsN_succ, List.sum_append]; simp
theorem sumN_bd {d : CoD} (hd : CodeOk d) (x : ItD) (k : Nat) : 0 ≤ sumN d x k ∧ sumN d x k ≤ 2000 * k := sumW_bd hd x k

theorem small_of {zs : List Int} (h : ∀ z ∈ zs, 0 ≤ z ∧ z ≤ 2000) : Small zs := fun z hz => by have := h z hz; omega
end Go.Proofs.Ytofmfagdaiphaaa

/- Items as a kind; known items; UnitOf. -/
namespace Go.Proofs.Ytofmfagdaiphaaa
open Go.RowKit Go.Sort
set_option linter.unusedVariables false

def kIm : Kind ItD where
  rd w v d := ∃ vs, v = kdItem.val vs ∧ kdItem.rd w w.heap.size vs d
  fr w lo hi v d := ∃ vs fp, v = kdItem.val vs ∧ kdItem.own w vs d fp ∧ (∀ i ∈ fp, lo ≤ i ∧ i < hi)
  ok d := kdItem.wt d ≤ 1048576
  mrk _ d := d
  cnt _ := 0
  rd_ext := by
    rintro w w' v d ⟨vs, rfl, h⟩ hx
    exact ⟨vs, rfl, kdItem.rd_more (kdItem.rd_ext h hx (Nat.le_refl _)) hx.size⟩
  fr_rd := by
    rintro w lo hi v d ⟨vs, fp, rfl, h, _⟩
    exact ⟨vs, rfl, kdItem.own_rd h⟩
  fr_tch := by
    rintro w w' lo hi lo' hi' v d ⟨vs, fp, rfl, h, hf⟩ k hd
    refine ⟨vs, fp, rfl, kdItem.own_keep h (fun i hi' => k.block i (kdItem.own_lt h i hi') ?_), hf⟩
    have := hf i hi'
    omega
  ok_cnt := fun _ => Nat.zero_le _
def kIm.wt (d : ItD) : Nat := kdItem.wt d
theorem kIm.ok_of {d : ItD} (h : ¬ 1048576 < kIm.wt d) : kIm.ok d := Nat.le_of_not_lt h
theorem kIm.lr {w : World} {v : Value} {d : ItD} (h : kIm.rd w v d) : ∃ A c A' c', v = .agg #[.slice A d.1.length c, .slice A' d.2.1.length c', .bool d.2.2] ∧ LR kdS w w.heap.size A c d.1 ∧ LR kdInt w w.heap.size A' c' d.2.1 := by
  obtain ⟨vs, rfl, h⟩ := h
  obtain ⟨A, c, A', c', rfl, h1⟩ := kdItem.open_ h
  exact ⟨A, c, A', c', rfl, h1⟩
theorem kIm.shape {w : World} {v : Value} {d : ItD} (h : kIm.rd w v d) : ∃ A n c A' n' c' q, v = .agg #[.slice A n c, .slice A' n' c', .bool q] := by
  obtain ⟨A, c, A', c', rfl, _⟩ := kIm.lr h
  exact ⟨A, _, c, A', _, c', _, rfl⟩
theorem LR.oneI {w : World} {B : Nat} {x : ItD} {A1 A2 : Option Addr} {c1 c2 : Nat} (h1 : LR kdS w B A1 c1 x.1) (h2 : LR kdInt w B A2 c2 x.2.1) (hB : B ≤ w.heap.size) (e : TypeId) :
    LR kdItem (w.alloc (.cells #[.slice A1 x.1.length c1, .slice A2 x.2.1.length c2, .bool x.2.2] e)) (w.heap.size + 1) (some ⟨w.heap.size, 0, none⟩) 1 [x] := by
  refine ⟨Nat.le_refl _, by omega, fun k y hk => ?_⟩
  cases k with
  | succ k => simp at hk
  | zero =>
    simp at hk
    subst hk
    have X := Ext.alloc w (.cells #[.slice A1 x.1.length c1, .slice A2 x.2.1.length c2, .bool x.2.2] e)
    refine ⟨w.heap.size, 0, [.slice A1 x.1.length c1, .slice A2 x.2.1.length c2, .bool x.2.2], rfl, by omega, kdItem.mk_ ((h1.ext X hB).more (by omega)) ((h2.ext X hB).more (by omega)), ?_⟩
    intro j u hj
    rcases j with _ | _ | _ | j
    · simp at hj; subst hj; simp [World.cell?_alloc_at]
    · simp at hj; subst hj; simp [World.cell?_alloc_at]
    · simp at hj; subst hj; simp [World.cell?_alloc_at]
    · simp at hj
theorem items_one (x : ItD) : itemsB [x] = itemB x := by simp [itemsB]
theorem known_one (els : List ElD) (x : ItD) : knownB els [x] = knownI els x := by simp [knownB]
def unitLaw (d : CoD) (x : ItD) : Int × Bool := if codeB d && itemB x && knownI d.1 x then (unitF d x, true) else (0, false)


end Go.Proofs.Ytofmfagdaiphaaa

/- Lists of items, codes: weighed with what is left. -/
namespace Go.Proofs.Ytofmfagdaiphaaa
open Go.RowKit Go.Sort
set_option linter.unusedVariables false

def kIt.wt (d : List ItD) : Nat := kdItS.wt d
theorem kIt.ok_of {d : List ItD} (h : ¬ 1048576 < kIt.wt d) : kIt.ok d := Nat.le_of_not_lt h
theorem kIt.lr {w : World} {v : Value} {d : List ItD} (h : kIt.rd w v d) : ∃ A c, v = .slice A d.length c ∧ LR kdItem w w.heap.size A c d := by
  obtain ⟨vs, rfl, ⟨A, c, rfl, h⟩⟩ := h
  exact ⟨A, c, rfl, h⟩
end Go.Proofs.Ytofmfagdaiphaaa
