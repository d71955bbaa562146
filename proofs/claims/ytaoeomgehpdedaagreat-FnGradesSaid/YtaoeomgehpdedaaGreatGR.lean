/- GR: RA, RM, RC, RD, RE, RF, RG, RH, RI, RJ in one text. -/
import Derived.Test.YtaoeomgehpdedaaGreatGO
import Derived.Test.YtaoeomgehpdedaaGreatGN
import Derived.Test.YtaoeomgehpdedaaGreatGA
import Derived.BigQuiet
import Derived.IntWalk
import Derived.Deep.RegionHeld3
import Derived.Test.YtaoeomgehpdedaaGreatGQ
/- Elements of a code, and lists of them: weighed, copied, compared, marked. -/
namespace Go.Proofs.YtaoeomgehpdedaaGreat
open Go.RowKit Go.Sort
set_option linter.unusedVariables false

abbrev ElD := List UInt8 × Int × Int × Int
def kdEl : Kd ElD := kdPair kdS (kdPair kdInt (kdPair kdInt kdInt))
def elV (d : ElD) : List Value := [.string (bs d.1), .int .i64 d.2.1, .int .i64 d.2.2.1, .int .i64 d.2.2.2]
theorem kdEl.open_ {w : World} {B : Nat} {vs : List Value} {d : ElD} (h : kdEl.rd w B vs d) : vs = [.string (bs d.1), .int .i64 d.2.1, .int .i64 d.2.2.1, .int .i64 d.2.2.2] ∧ d.1.length ≤ 9223372036854775807 := by
  obtain ⟨v1, v2, rfl, ⟨h1, hl⟩, v3, v4, rfl, h2, v5, v6, rfl, h3, h4⟩ := h
  have h2 : v3 = [.int .i64 d.2.1] := h2
  have h3 : v5 = [.int .i64 d.2.2.1] := h3
  have h4 : v6 = [.int .i64 d.2.2.2] := h4
  subst h1 h2 h3 h4
  exact ⟨rfl, hl⟩
theorem kdEl.mk_ (w : World) (B : Nat) (d : ElD) (hl : d.1.length ≤ 9223372036854775807) : kdEl.rd w B [.string (bs d.1), .int .i64 d.2.1, .int .i64 d.2.2.1, .int .i64 d.2.2.2] d :=
  ⟨[.string (bs d.1)], [.int .i64 d.2.1, .int .i64 d.2.2.1, .int .i64 d.2.2.2], rfl, ⟨rfl, hl⟩, [.int .i64 d.2.1], [.int .i64 d.2.2.1, .int .i64 d.2.2.2], rfl, rfl, [.int .i64 d.2.2.1], [.int .i64 d.2.2.2], rfl, rfl, rfl⟩
theorem kdEl.mkOwn (w : World) (d : ElD) (hl : d.1.length ≤ 9223372036854775807) : kdEl.own w [.string (bs d.1), .int .i64 d.2.1, .int .i64 d.2.2.1, .int .i64 d.2.2.2] d [] :=
  ⟨[.string (bs d.1)], [.int .i64 d.2.1, .int .i64 d.2.2.1, .int .i64 d.2.2.2], [], [], rfl, ⟨⟨rfl, hl⟩, rfl⟩, ⟨[.int .i64 d.2.1], [.int .i64 d.2.2.1, .int .i64 d.2.2.2], [], [], rfl, ⟨rfl, rfl⟩, ⟨[.int .i64 d.2.2.1], [.int .i64 d.2.2.2], [], [], rfl, ⟨rfl, rfl⟩, ⟨rfl, rfl⟩, rfl, by simp⟩, rfl, by simp⟩, rfl, by simp⟩
theorem kdEl.own_nil {w : World} {vs : List Value} {d : ElD} {f : List Nat} (h : kdEl.own w vs d f) : f = [] := by
  obtain ⟨v1, v2, f1, f2, _, ⟨_, e1⟩, ⟨v3, v4, f3, f4, _, ⟨_, e2⟩, ⟨v5, v6, f5, f6, _, ⟨_, e3⟩, ⟨_, e4⟩, e5, _⟩, e6, _⟩, e7, _⟩ := h
  rw [e7, e6, e5, e1, e2, e3, e4]; rfl
theorem kdEl.val4 (a b c e : Value) : kdEl.val [a, b, c, e] = .agg #[a, b, c, e] := rfl
theorem kdEl.wt_eq (d : ElD) : kdEl.wt d = d.1.length := by
  show d.1.length + (0 + (0 + 0)) = _
  omega
def kdElS : Kd (List ElD) := kdList 84 kdEl
def noEl : ElD := ([], 0, 0, 0)
theorem info_element : (Tryz.prog.info? 84).map (fun i => (i.zero, i.size, i.bytes)) = some (some (.agg #[.string (bs []), .int .i64 0, .int .i64 0, .int .i64 0]), 4, 40) := by kernel_rfl
theorem kdEl.zero (w : World) : kdEl.own w [.string (bs []), .int .i64 0, .int .i64 0, .int .i64 0] noEl [] := kdEl.mkOwn w noEl (by decide)
theorem LR.element {w : World} {B c : Nat} {A : Option Addr} {xs : List ElD} (h : LR kdEl w B A c xs) (k : Nat) (x : ElD) (hx : xs[k]? = some x) : ∃ b off, A = some ⟨b, off, none⟩ ∧ b < B ∧ w.cell? ⟨b, off + k * 4, none⟩ = some (.string (bs x.1)) ∧ w.cell? ⟨b, off + k * 4 + 1, none⟩ = some (.int .i64 x.2.1) ∧ w.cell? ⟨b, off + k * 4 + 2, none⟩ = some (.int .i64 x.2.2.1) ∧ w.cell? ⟨b, off + k * 4 + 3, none⟩ = some (.int .i64 x.2.2.2) ∧ x.1.length ≤ 9223372036854775807 := by
  obtain ⟨b, off, cs, rfl, hb, hr, hc⟩ := h.2.2 k x hx
  obtain ⟨rfl, hl⟩ := kdEl.open_ hr
  exact ⟨b, off, rfl, hb, hc 0 _ rfl, hc 1 _ rfl, hc 2 _ rfl, hc 3 _ rfl, hl⟩

end Go.Proofs.YtaoeomgehpdedaaGreat

/- Elements marked. -/
namespace Go.Proofs.YtaoeomgehpdedaaGreat
open Go.RowKit Go.Sort
set_option linter.unusedVariables false

end Go.Proofs.YtaoeomgehpdedaaGreat

/- Codes: as a kind; weighed, copied, compared, marked. -/
namespace Go.Proofs.YtaoeomgehpdedaaGreat
open Go.RowKit Go.Sort
set_option linter.unusedVariables false

abbrev CoD := List ElD × List Int × Int × Int × Int × Int
def kdCo : Kd CoD := kdPair kdElS (kdPair kdL (kdPair kdNum (kdPair kdNum (kdPair kdNum kdNum))))
theorem kdCo.open_ {w : World} {B : Nat} {vs : List Value} {d : CoD} (h : kdCo.rd w B vs d) : ∃ A c A' c', vs = [.slice A d.1.length c, .slice A' d.2.1.length c', .int .i64 d.2.2.1, .int .i64 d.2.2.2.1, .int .i64 d.2.2.2.2.1, .int .i64 d.2.2.2.2.2] ∧ LR kdEl w B A c d.1 ∧ LR kdInt w B A' c' d.2.1 := by
  obtain ⟨v1, v2, rfl, ⟨A, c, rfl, h1⟩, v3, v4, rfl, ⟨A', c', rfl, h2⟩, v5, v6, rfl, h3, v7, v8, rfl, h4, v9, v10, rfl, h5, h6⟩ := h
  have h3 : v5 = [.int .i64 d.2.2.1] := h3
  have h4 : v7 = [.int .i64 d.2.2.2.1] := h4
  have h5 : v9 = [.int .i64 d.2.2.2.2.1] := h5
  have h6 : v10 = [.int .i64 d.2.2.2.2.2] := h6
  subst h3 h4 h5 h6
  exact ⟨A, c, A', c', rfl, h1, h2⟩
theorem kdCo.mk_ {w : World} {B : Nat} {d : CoD} {A A' : Option Addr} {c c' : Nat} (h1 : LR kdEl w B A c d.1) (h2 : LR kdInt w B A' c' d.2.1) : kdCo.rd w B [.slice A d.1.length c, .slice A' d.2.1.length c', .int .i64 d.2.2.1, .int .i64 d.2.2.2.1, .int .i64 d.2.2.2.2.1, .int .i64 d.2.2.2.2.2] d :=
  ⟨[.slice A d.1.length c], _, rfl, ⟨A, c, rfl, h1⟩, [.slice A' d.2.1.length c'], _, rfl, ⟨A', c', rfl, h2⟩, [.int .i64 d.2.2.1], _, rfl, rfl, [.int .i64 d.2.2.2.1], _, rfl, rfl, [.int .i64 d.2.2.2.2.1], _, rfl, rfl, rfl⟩
theorem kdCo.mkOwn {w : World} {d : CoD} {A A' : Option Addr} {c c' : Nat} {f1 f2 : List Nat} (h1 : LO kdEl 84 w A c d.1 f1) (h2 : LO kdInt 3 w A' c' d.2.1 f2) (hd : ∀ i ∈ f1, i ∉ f2) : kdCo.own w [.slice A d.1.length c, .slice A' d.2.1.length c', .int .i64 d.2.2.1, .int .i64 d.2.2.2.1, .int .i64 d.2.2.2.2.1, .int .i64 d.2.2.2.2.2] d (f1 ++ f2) := by
  have hnd : (f1 ++ f2).Nodup := by
    rw [List.nodup_append]
    exact ⟨h1.nodup, h2.nodup, fun a ha b hb e => hd a ha (e ▸ hb)⟩
  exact ⟨[.slice A d.1.length c], _, f1, f2, rfl, ⟨A, c, rfl, h1⟩, ⟨[.slice A' d.2.1.length c'], _, f2, [], rfl, ⟨A', c', rfl, h2⟩, ⟨[.int .i64 d.2.2.1], _, [], [], rfl, ⟨rfl, rfl⟩, ⟨[.int .i64 d.2.2.2.1], _, [], [], rfl, ⟨rfl, rfl⟩, ⟨[.int .i64 d.2.2.2.2.1], _, [], [], rfl, ⟨rfl, rfl⟩, ⟨rfl, rfl⟩, rfl, by simp⟩, rfl, by simp⟩, rfl, by simp⟩, by simp, h2.nodup⟩, rfl, hnd⟩
theorem kdCo.val6 (a b c d e f : Value) : kdCo.val [a, b, c, d, e, f] = .agg #[a, b, c, d, e, f] := rfl
theorem kdCo.wt_eq (d : CoD) : kdCo.wt d = kdElS.wt d.1 + kdL.wt d.2.1 := by
  show kdElS.wt d.1 + (kdL.wt d.2.1 + (0 + (0 + (0 + 0)))) = _
  omega
theorem kdCo.cnt_eq (d : CoD) : kdCo.cnt d = kdElS.cnt d.1 + kdL.cnt d.2.1 := by
  show kdElS.cnt d.1 + (kdL.cnt d.2.1 + (0 + (0 + (0 + 0)))) = _
  omega

theorem cntCo_wt (d : CoD) : kdCo.cnt d ≤ 4 * kdCo.wt d := by
  have h1 : kdElS.cnt d.1 ≤ 4 * kdElS.wt d.1 := cntL_le kdEl 4 (fun x => by have : kdEl.cnt x = 4 := rfl; omega) d.1
  have h2 : kdL.cnt d.2.1 = d.2.1.length := cntL_int _
  have h3 : kdL.wt d.2.1 = d.2.1.length := wtL_int _
  rw [kdCo.wt_eq, kdCo.cnt_eq]
  omega
/-- Codes, as the laws hand them about. -/
def kC : Kind CoD where
  rd w v d := ∃ vs, v = kdCo.val vs ∧ kdCo.rd w w.heap.size vs d
  fr w lo hi v d := ∃ vs fp, v = kdCo.val vs ∧ kdCo.own w vs d fp ∧ (∀ i ∈ fp, lo ≤ i ∧ i < hi)
  ok d := kdCo.wt d ≤ 1048576
  mrk := kdCo.mrk
  cnt := kdCo.cnt
  rd_ext := by
    rintro w w' v d ⟨vs, rfl, h⟩ hx
    exact ⟨vs, rfl, kdCo.rd_more (kdCo.rd_ext h hx (Nat.le_refl _)) hx.size⟩
  fr_rd := by
    rintro w lo hi v d ⟨vs, fp, rfl, h, _⟩
    exact ⟨vs, rfl, kdCo.own_rd h⟩
  fr_tch := by
    rintro w w' lo hi lo' hi' v d ⟨vs, fp, rfl, h, hf⟩ k hd
    refine ⟨vs, fp, rfl, kdCo.own_keep h (fun i hi' => k.block i (kdCo.own_lt h i hi') ?_), hf⟩
    have := hf i hi'
    omega
  ok_cnt := fun {d} h => by have h1 := cntCo_wt d; have h2 : kdCo.wt d ≤ 1048576 := h; omega
def kC.wt (d : CoD) : Nat := kdCo.wt d
theorem kC.ok_of {d : CoD} (h : ¬ 1048576 < kC.wt d) : kC.ok d := Nat.le_of_not_lt h
theorem kC.lr {w : World} {v : Value} {d : CoD} (h : kC.rd w v d) : ∃ A c A' c', v = .agg #[.slice A d.1.length c, .slice A' d.2.1.length c', .int .i64 d.2.2.1, .int .i64 d.2.2.2.1, .int .i64 d.2.2.2.2.1, .int .i64 d.2.2.2.2.2] ∧ LR kdEl w w.heap.size A c d.1 ∧ LR kdInt w w.heap.size A' c' d.2.1 := by
  obtain ⟨vs, rfl, h⟩ := h
  obtain ⟨A, c, A', c', rfl, h1⟩ := kdCo.open_ h
  exact ⟨A, c, A', c', rfl, h1⟩
theorem kC.shape {w : World} {v : Value} {d : CoD} (h : kC.rd w v d) : ∃ A n c A' n' c' r b p f, v = .agg #[.slice A n c, .slice A' n' c', .int .i64 r, .int .i64 b, .int .i64 p, .int .i64 f] := by
  obtain ⟨A, c, A', c', rfl, _⟩ := kC.lr h
  exact ⟨A, _, c, A', _, c', _, _, _, _, rfl⟩
end Go.Proofs.YtaoeomgehpdedaaGreat

/- Codes that are valid. -/
namespace Go.Proofs.YtaoeomgehpdedaaGreat
open Go.RowKit Go.Sort
set_option linter.unusedVariables false

def ltS (a b : List UInt8) : Bool := Op.bytesLess (bs a).toList (bs b).toList
def elB (x : ElD) : Bool := nameB x.1 && inB 0 4 x.2.1 && inB 0 4 x.2.2.1 && inB 1 2000 x.2.2.2
def upB (xs : List ElD) (i : Nat) : Bool := decide (i = 0) || ltS (xs.getD (i - 1) noEl).1 (xs.getD i noEl).1
def elAt (xs : List ElD) (i : Nat) : Bool := elB (xs.getD i noEl) && upB xs i
def codeB (d : CoD) : Bool := inB 1 24 (d.1.length : Int) && ((d.2.1.length : Int) == 5) && d.2.1.all (inB 0 9) && inB 1 3 d.2.2.1 && inB 0 20 d.2.2.2.1 && inB 50 100 d.2.2.2.2.1 && inB 0 500 d.2.2.2.2.2 && (List.range d.1.length).all (elAt d.1)
theorem getD_some {α : Type} {xs : List α} {k : Nat} {x z : α} (h : xs[k]? = some x) : xs.getD k z = x := by
  rw [List.getD_eq_getElem?_getD, h]; rfl
theorem elAt_some {xs : List ElD} {k : Nat} {x : ElD} (h : xs[k]? = some x) : elAt xs k = (elB x && upB xs k) := by
  unfold elAt; rw [getD_some h]
theorem upB_zero (xs : List ElD) : upB xs 0 = true := rfl
theorem upB_succ {xs : List ElD} {k : Nat} {x y : ElD} (hk : 0 < k) (hy : xs[k - 1]? = some y) (h : xs[k]? = some x) : upB xs k = ltS y.1 x.1 := by
  unfold upB; rw [getD_some h, getD_some hy]
  have : decide (k = 0) = false := by simp; omega
  rw [this]; rfl
set_option maxHeartbeats 1000000 in
theorem s.cdName_any (x : List UInt8) (w : World) (hx : x.length ≤ 9223372036854775807) : Calls Tryz.prog 106 #[.string (bs x)] w fun e w' => e = .returned (.bool (nameB x)) ∧ w = w' := by
  obtain ⟨n, hn⟩ : ∃ n, Hid (x.length = n) := ⟨_, rfl⟩
  have hz : (bs x).size = n := by rw [bs_size, hn.out]
  rw [hn.out] at hx
  have GET := hide (bs_get x)
  have HZ := hide hz
  clear hz
  obtain ⟨sb, hs⟩ : ∃ sb, Hid (bs x = sb) := ⟨_, rfl⟩
  rw [hs.out] at GET HZ ⊢
  have hz := HZ.out
  go_enter Tryz.func106, Tryz.ntmps106
  go_wp2
  go_loop [3] (fun i => ∃ k : Nat, k ≤ n ∧ i = .int .i64 k ∧ (x.take k).all nameByte = true) (fun i => n - (intOf i).toNat)
  case atStart => exact ⟨0, Nat.zero_le _, rfl, rfl⟩
  case round =>
    obtain ⟨k, hk, rfl, hall⟩ := hrel
    have H := hide hall; clear hall
    by_cases hlt : k < n
    · obtain ⟨y, hy⟩ : ∃ y, Hid (x[k]? = some y) := ⟨_, List.getElem?_eq_getElem (by rw [hn.out]; exact hlt)⟩
      go_wp2
      all_goals have e := GET.out k (by omega) y hy.out
      all_goals try simp only [e] at *
      all_goals first
        | (go_ret
           refine ⟨ret_bool ?_, rfl⟩
           have hb : nameByte y = false := by unfold nameByte; simp; omega
           rw [nameB, allL_stop hy.out hb]; rfl)
        | (go_round
           case rel =>
             have hb : nameByte y = true := by unfold nameByte; simp; omega
             exact ⟨k + 1, by omega, by go_num, allL_step hy.out H.out hb⟩
           case measure => simp [intOf]; omega)
    · go_wp2_with (go_at_call 67; refine (s.l1In_any _ _ _ _).mono ?_; rintro e w' ⟨rfl, rfl⟩)
      go_ret
      exact ⟨ret_bool (by rw [nameB, allL_end (by rw [hn.out]; omega) H.out, hn.out]; simp), rfl⟩

theorem i.isFamily_any (z : Int) (w : World) : Calls Tryz.prog 74 #[.int .i64 z] w fun e w' => e = .returned (.bool (inB 0 4 z)) ∧ w = w' := by
  go_enter Tryz.func74, Tryz.ntmps74
  go_wp2_with (go_at_call 60; refine (i.within_any _ _ _ _).mono ?_; rintro e w' ⟨rfl, rfl⟩)
  go_ret
  exact ⟨rfl, rfl⟩
set_option maxHeartbeats 1000000 in
theorem s.cdElement_any (x : ElD) (w : World) (hl : x.1.length ≤ 9223372036854775807) : Calls Tryz.prog 78 #[.agg #[.string (bs x.1), .int .i64 x.2.1, .int .i64 x.2.2.1, .int .i64 x.2.2.2]] w fun e w' => e = .returned (.bool (elB x)) ∧ Ext w w' := by
  obtain ⟨nm, x1, x2, x3⟩ := x
  have NM := hide (fun w' => s.cdName_any nm w' hl)
  obtain ⟨R, hR⟩ : ∃ R, Hid (elB (nm, x1, x2, x3) = R) := ⟨_, rfl⟩
  have SE : Hid (R = (nameB nm && inB 0 4 x1 && inB 0 4 x2 && inB 1 2000 x3)) := by show _ = _; rw [← hR.out]; rfl
  rw [hR.out]
  clear hR
  dsimp only at hl ⊢
  generalize bs nm = sb at *
  have X0 := hide (Ext.alloc w (.cells #[.string sb, .int .i64 x1, .int .i64 x2, .int .i64 x3] 84))
  cases q1 : nameB nm
  · have HF : Hid (R = false) := by show _ = _; rw [SE.out]; simp [q1]
    rw [q1] at NM
    clear q1
    go_enter Tryz.func78, Tryz.ntmps78
    go_wp2_with (first | (go_at_call 106; refine (NM.out _).mono ?_; rintro e w' ⟨rfl, rfl⟩) | (go_at_call 67; refine (s.l1In_any _ _ _ _).mono ?_; rintro e w' ⟨rfl, rfl⟩))
    go_ret
    exact ⟨ret_bool HF.out.symm, X0.out⟩
  rw [q1] at NM
  replace SE : Hid (R = (inB 0 4 x1 && inB 0 4 x2 && inB 1 2000 x3)) := by show _ = _; rw [SE.out, q1]; simp
  clear q1
  cases q2 : inB 0 4 x1
  · have HF : Hid (R = false) := by show _ = _; rw [SE.out]; simp [q2]
    go_enter Tryz.func78, Tryz.ntmps78
    go_wp2_with (first | (go_at_call 106; refine (NM.out _).mono ?_; rintro e w' ⟨rfl, rfl⟩) | (go_at_call 67; refine (s.l1In_any _ _ _ _).mono ?_; rintro e w' ⟨rfl, rfl⟩))
    go_ret
    exact ⟨ret_bool HF.out.symm, X0.out⟩
  replace SE : Hid (R = (inB 0 4 x2 && inB 1 2000 x3)) := by show _ = _; rw [SE.out, q2]; simp
  cases q3 : inB 0 4 x2
  · have HF : Hid (R = false) := by show _ = _; rw [SE.out]; simp [q3]
    go_enter Tryz.func78, Tryz.ntmps78
    go_wp2_with (first | (go_at_call 106; refine (NM.out _).mono ?_; rintro e w' ⟨rfl, rfl⟩) | (go_at_call 67; refine (s.l1In_any _ _ _ _).mono ?_; rintro e w' ⟨rfl, rfl⟩))
    go_ret
    exact ⟨ret_bool HF.out.symm, X0.out⟩
  replace SE : Hid (R = inB 1 2000 x3) := by show _ = _; rw [SE.out, q3]; simp
  go_enter Tryz.func78, Tryz.ntmps78
  go_wp2_with (first | (go_at_call 106; refine (NM.out _).mono ?_; rintro e w' ⟨rfl, rfl⟩) | (go_at_call 67; refine (s.l1In_any _ _ _ _).mono ?_; rintro e w' ⟨rfl, rfl⟩))
  go_ret
  exact ⟨ret_bool SE.out.symm, X0.out⟩

set_option maxRecDepth 100000 in
set_option maxHeartbeats 1000000 in
theorem i.IsCode_m (w : World) (v : Value) (d : CoD) (h : kC.rd w v d) (hok : kC.ok d) :
    Calls Tryz.prog 42 #[v] w fun e w' => e = .returned (.bool (codeB d)) ∧ Ext w w' := by
  obtain ⟨A, c, A', c', rfl, h1, h2⟩ := kC.lr h
  have hok : kdCo.wt d ≤ 1048576 := hok
  rw [kdCo.wt_eq] at hok
  obtain ⟨d1, d2, r, b, p, f⟩ := d
  dsimp only at *
  have hw1 : wtL kdEl d1 ≤ 1048576 := by have : kdElS.wt d1 = wtL kdEl d1 := rfl; omega
  have hw2 : d2.length ≤ 1048576 := by have : kdL.wt d2 = d2.length := wtL_int _; omega
  have k1 := wtL_len kdEl d1
  have a1 := h1.1; have a2 := h1.2.1; have a3 := h2.1; have a4 := h2.2.1
  have H1 := hide h1
  have AL := hide (fun (wq : World) (xq : Ext w wq) => i.allWithin_any A' d2.length c' w.heap.size d2 0 9 wq (h2.sl.ext xq (Nat.le_refl _)) hw2)
  clear h h1 h2 hok
  obtain ⟨R, hR⟩ : ∃ R, Hid (codeB (d1, d2, r, b, p, f) = R) := ⟨_, rfl⟩
  rw [hR.out]
  obtain ⟨n, hn⟩ : ∃ n, Hid (d1.length = n) := ⟨_, rfl⟩
  obtain ⟨n', hn'⟩ : ∃ n', Hid (d2.length = n') := ⟨_, rfl⟩
  have SE : Hid (R = (inB 1 24 (n : Int) && ((n' : Int) == 5) && d2.all (inB 0 9) && inB 1 3 r && inB 0 20 b && inB 50 100 p && inB 0 500 f && (List.range n).all (elAt d1))) := by show _ = _; rw [← hR.out, ← hn.out, ← hn'.out]; rfl
  clear hR
  rw [hn.out] at k1 a1 ⊢
  rw [hn'.out] at AL a3 hw2 ⊢
  have n1 : n ≤ 1048576 := by omega
  clear hw1 k1
  generalize hl : d2.all (inB 0 9) = lb at *
  clear hl
  have X0 := hide (Ext.alloc w (.cells #[.slice A n c, .slice A' n' c', .int .i64 r, .int .i64 b, .int .i64 p, .int .i64 f] 26))
  cases q0 : inB 1 24 (n : Int)
  case false =>
    have HF : Hid (R = false) := by show _ = _; rw [SE.out]; simp [q0]
    go_enter Tryz.func42, Tryz.ntmps42
    go_wp2_with (first | (go_at_call 60; refine (i.within_any _ _ _ _).mono ?_; rintro e w' ⟨rfl, rfl⟩) | (go_at_call 72; refine (AL.out _ X0.out).mono ?_; rintro e w' ⟨rfl, rfl⟩))
    go_ret
    exact ⟨ret_bool HF.out.symm, X0.out⟩
  replace SE : Hid (R = (((n' : Int) == 5) && lb && inB 1 3 r && inB 0 20 b && inB 50 100 p && inB 0 500 f && (List.range n).all (elAt d1))) := by show _ = _; rw [SE.out, q0]; simp
  by_cases q1 : n' = 5
  case neg =>
    have b5 : ((n' : Int) != 5) = true := by rw [bne_iff_ne]; intro h8; exact q1 (by omega)
    have b6 : ((n' : Int) == 5) = false := by rw [beq_eq_false_iff_ne]; intro h8; exact q1 (by omega)
    have HF : Hid (R = false) := by show _ = _; rw [SE.out]; simp [b6]
    clear q1
    go_enter Tryz.func42, Tryz.ntmps42
    go_wp2_with (first | (go_at_call 60; refine (i.within_any _ _ _ _).mono ?_; rintro e w' ⟨rfl, rfl⟩) | (go_at_call 72; refine (AL.out _ X0.out).mono ?_; rintro e w' ⟨rfl, rfl⟩))
    go_ret
    exact ⟨ret_bool HF.out.symm, X0.out⟩
  have b5 : ((n' : Int) != 5) = false := by simp [q1]
  have b6 : ((n' : Int) == 5) = true := by simp [q1]
  replace SE : Hid (R = (lb && inB 1 3 r && inB 0 20 b && inB 50 100 p && inB 0 500 f && (List.range n).all (elAt d1))) := by show _ = _; rw [SE.out, b6]; simp
  have q51 : n' ≤ 5 ∧ 5 ≤ n' := by omega
  clear q1
  cases lb
  case false =>
    have HF : Hid (R = false) := by show _ = _; rw [SE.out]; simp
    go_enter Tryz.func42, Tryz.ntmps42
    go_wp2_with (first | (go_at_call 60; refine (i.within_any _ _ _ _).mono ?_; rintro e w' ⟨rfl, rfl⟩) | (go_at_call 72; refine (AL.out _ X0.out).mono ?_; rintro e w' ⟨rfl, rfl⟩))
    go_ret
    exact ⟨ret_bool HF.out.symm, X0.out⟩
  replace SE : Hid (R = (inB 1 3 r && inB 0 20 b && inB 50 100 p && inB 0 500 f && (List.range n).all (elAt d1))) := by show _ = _; rw [SE.out]; simp
  cases q3 : inB 1 3 r
  case false =>
    have HF : Hid (R = false) := by show _ = _; rw [SE.out]; simp [q3]
    go_enter Tryz.func42, Tryz.ntmps42
    go_wp2_with (first | (go_at_call 60; refine (i.within_any _ _ _ _).mono ?_; rintro e w' ⟨rfl, rfl⟩) | (go_at_call 72; refine (AL.out _ X0.out).mono ?_; rintro e w' ⟨rfl, rfl⟩))
    go_ret
    exact ⟨ret_bool HF.out.symm, X0.out⟩
  replace SE : Hid (R = (inB 0 20 b && inB 50 100 p && inB 0 500 f && (List.range n).all (elAt d1))) := by show _ = _; rw [SE.out, q3]; simp
  cases q4 : inB 0 20 b
  case false =>
    have HF : Hid (R = false) := by show _ = _; rw [SE.out]; simp [q4]
    go_enter Tryz.func42, Tryz.ntmps42
    go_wp2_with (first | (go_at_call 60; refine (i.within_any _ _ _ _).mono ?_; rintro e w' ⟨rfl, rfl⟩) | (go_at_call 72; refine (AL.out _ X0.out).mono ?_; rintro e w' ⟨rfl, rfl⟩))
    go_ret
    exact ⟨ret_bool HF.out.symm, X0.out⟩
  replace SE : Hid (R = (inB 50 100 p && inB 0 500 f && (List.range n).all (elAt d1))) := by show _ = _; rw [SE.out, q4]; simp
  cases q5 : inB 50 100 p
  case false =>
    have HF : Hid (R = false) := by show _ = _; rw [SE.out]; simp [q5]
    go_enter Tryz.func42, Tryz.ntmps42
    go_wp2_with (first | (go_at_call 60; refine (i.within_any _ _ _ _).mono ?_; rintro e w' ⟨rfl, rfl⟩) | (go_at_call 72; refine (AL.out _ X0.out).mono ?_; rintro e w' ⟨rfl, rfl⟩))
    go_ret
    exact ⟨ret_bool HF.out.symm, X0.out⟩
  replace SE : Hid (R = (inB 0 500 f && (List.range n).all (elAt d1))) := by show _ = _; rw [SE.out, q5]; simp
  cases q6 : inB 0 500 f
  case false =>
    have HF : Hid (R = false) := by show _ = _; rw [SE.out]; simp [q6]
    go_enter Tryz.func42, Tryz.ntmps42
    go_wp2_with (first | (go_at_call 60; refine (i.within_any _ _ _ _).mono ?_; rintro e w' ⟨rfl, rfl⟩) | (go_at_call 72; refine (AL.out _ X0.out).mono ?_; rintro e w' ⟨rfl, rfl⟩))
    go_ret
    exact ⟨ret_bool HF.out.symm, X0.out⟩
  replace SE : Hid (R = ((List.range n).all (elAt d1))) := by show _ = _; rw [SE.out, q6]; simp
  obtain ⟨W0, hW0⟩ : ∃ W0, Hid (W0 = w.alloc (.cells #[.slice A n c, .slice A' n' c', .int .i64 r, .int .i64 b, .int .i64 p, .int .i64 f] 26)) := ⟨_, rfl⟩
  have X : Hid (Ext w W0) := by rw [hW0.out]; exact Ext.alloc w _
  have B0 : Hid (Blk W0 w.heap.size #[.slice A n c, .slice A' n' c', .int .i64 r, .int .i64 b, .int .i64 p, .int .i64 f] 26) := by rw [hW0.out]; exact Blk.new rfl _ _
  have SEL := hide (fun (k : Nat) (x : ElD) (h : d1[k]? = some x) => elAt_some h)
  go_enter Tryz.func42, Tryz.ntmps42
  go_wp2_with (first | (go_at_call 60; refine (i.within_any _ _ _ _).mono ?_; rintro e w' ⟨rfl, rfl⟩) | (go_at_call 72; refine (AL.out _ X0.out).mono ?_; rintro e w' ⟨rfl, rfl⟩))
  rw [← hW0.out]
  clear hW0 q0 b5 b6 q3 q4 q5 q6 AL
  go_loopw [47] (fun i wr => ∃ (k : Nat), k ≤ n ∧ i = .int .i64 k ∧ (List.range k).all (elAt d1) = true ∧ Blk wr w.heap.size #[.slice A n c, .slice A' n' c', .int .i64 r, .int .i64 b, .int .i64 p, .int .i64 f] 26 ∧ Ext w wr) (fun i _ => n - (intOf i).toNat)
  case atStart => exact ⟨0, Nat.zero_le _, rfl, rfl, B0.out, X.out⟩
  case round =>
    obtain ⟨k, hk, rfl, hall, hb0, hx⟩ := hrel
    clear B0 X
    have HA := hide hall
    have B0 := hide hb0
    have X := hide hx
    clear hall hb0 hx
    by_cases hlt : k < n
    · obtain ⟨x, hxk⟩ : ∃ x, Hid (d1[k]? = some x) := ⟨_, List.getElem?_eq_getElem (by rw [hn.out]; exact hlt)⟩
      obtain ⟨g, off, rfl, hg, u0, u1, u2, u3, xl⟩ := (H1.out.ext X.out (Nat.le_refl _)).element k x hxk.out
      have sz := X.out.size
      have S1 := SEL.out k x hxk.out
      obtain ⟨eb, heb⟩ : ∃ eb, Hid (elB x = eb) := ⟨_, rfl⟩
      rw [heb.out] at S1
      have EA := hide S1
      have LE := hide heb.out
      clear S1
      obtain ⟨W1, hW1⟩ : ∃ W1, Hid (W1 = wr.alloc (.cells #[.string (bs x.1), .int .i64 x.2.1, .int .i64 x.2.2.1, .int .i64 x.2.2.2] 84)) := ⟨_, rfl⟩
      have x1 : Ext wr W1 := by rw [hW1.out]; exact Ext.alloc _ _
      have B1 : Hid (Blk W1 wr.heap.size #[.string (bs x.1), .int .i64 x.2.1, .int .i64 x.2.2.1, .int .i64 x.2.2.2] 84) := by rw [hW1.out]; exact Blk.new rfl _ _
      have HS : Hid ((List.range n).all (elAt d1) = false → R = false) := fun h9 => by rw [SE.out, h9]
      by_cases hk0 : k = 0
      · have HU : Hid (elAt d1 k = eb) := by show _ = _; rw [EA.out, hk0, upB_zero]; simp
        have kp : ¬ (0 < k) := by omega
        clear EA
        have kI : decide ((0 : Int) < (k : Int)) = false := by simp; omega
        clear hk0
        cases e0 : nameB x.1
        case false =>
          have hf : eb = false := by rw [← LE.out]; simp [elB, e0]
          have HF := hide (HS.out (range_stop hlt (by rw [HU.out, hf] <;> rfl)))
          clear hf
          go_wp2_with (first | (go_at_call 73; refine (i.IsElementName_any x.1 _ xl).mono ?_; rintro e w' ⟨rfl, rfl⟩) | (go_at_call 74; refine (i.isFamily_any _ _).mono ?_; rintro e w' ⟨rfl, rfl⟩) | (go_at_call 60; refine (i.within_any _ _ _ _).mono ?_; rintro e w' ⟨rfl, rfl⟩))
          go_ret
          exact ⟨ret_bool HF.out.symm, by first | exact X.out.trans (Ext.alloc _ _) | (rw [← hW1.out]; exact X.out.trans x1)⟩
        cases e1 : inB 0 4 x.2.1
        case false =>
          have hf : eb = false := by rw [← LE.out]; simp [elB, e1]
          have HF := hide (HS.out (range_stop hlt (by rw [HU.out, hf] <;> rfl)))
          clear hf
          go_wp2_with (first | (go_at_call 73; refine (i.IsElementName_any x.1 _ xl).mono ?_; rintro e w' ⟨rfl, rfl⟩) | (go_at_call 74; refine (i.isFamily_any _ _).mono ?_; rintro e w' ⟨rfl, rfl⟩) | (go_at_call 60; refine (i.within_any _ _ _ _).mono ?_; rintro e w' ⟨rfl, rfl⟩))
          go_ret
          exact ⟨ret_bool HF.out.symm, by first | exact X.out.trans (Ext.alloc _ _) | (rw [← hW1.out]; exact X.out.trans x1)⟩
        cases e2 : inB 0 4 x.2.2.1
        case false =>
          have hf : eb = false := by rw [← LE.out]; simp [elB, e2]
          have HF := hide (HS.out (range_stop hlt (by rw [HU.out, hf] <;> rfl)))
          clear hf
          go_wp2_with (first | (go_at_call 73; refine (i.IsElementName_any x.1 _ xl).mono ?_; rintro e w' ⟨rfl, rfl⟩) | (go_at_call 74; refine (i.isFamily_any _ _).mono ?_; rintro e w' ⟨rfl, rfl⟩) | (go_at_call 60; refine (i.within_any _ _ _ _).mono ?_; rintro e w' ⟨rfl, rfl⟩))
          go_ret
          exact ⟨ret_bool HF.out.symm, by first | exact X.out.trans (Ext.alloc _ _) | (rw [← hW1.out]; exact X.out.trans x1)⟩
        cases e3 : inB 1 2000 x.2.2.2
        case false =>
          have hf : eb = false := by rw [← LE.out]; simp [elB, e3]
          have HF := hide (HS.out (range_stop hlt (by rw [HU.out, hf] <;> rfl)))
          clear hf
          go_wp2_with (first | (go_at_call 73; refine (i.IsElementName_any x.1 _ xl).mono ?_; rintro e w' ⟨rfl, rfl⟩) | (go_at_call 74; refine (i.isFamily_any _ _).mono ?_; rintro e w' ⟨rfl, rfl⟩) | (go_at_call 60; refine (i.within_any _ _ _ _).mono ?_; rintro e w' ⟨rfl, rfl⟩))
          go_ret
          exact ⟨ret_bool HF.out.symm, by first | exact X.out.trans (Ext.alloc _ _) | (rw [← hW1.out]; exact X.out.trans x1)⟩
        have ht : eb = true := by rw [← LE.out]; simp [elB, e0, e1, e2, e3]
        rw [ht] at HU
        clear ht
        have X1 := hide (X.out.trans x1)
        have B2 := hide (B0.out.ext x1)
        clear x1
        go_wp2_with (first | (go_at_call 73; refine (i.IsElementName_any x.1 _ xl).mono ?_; rintro e w' ⟨rfl, rfl⟩) | (go_at_call 74; refine (i.isFamily_any _ _).mono ?_; rintro e w' ⟨rfl, rfl⟩) | (go_at_call 60; refine (i.within_any _ _ _ _).mono ?_; rintro e w' ⟨rfl, rfl⟩))
        rw [← hW1.out]
        clear hW1
        have c0_ := B2.out.cell; have c1_ := B1.out.cell
        go_quiet (fail)
        go_wp2
        go_roundw
        case rel => exact ⟨k + 1, by omega, by go_num, range_step HA.out (by rw [HU.out]), B2.out.ext (Ext.drewN _ _), X1.out.trans (Ext.drewN _ _)⟩
        case measure => simp [intOf]; omega
      · have kp : 0 < k := by omega
        obtain ⟨y, hyk⟩ : ∃ y, Hid (d1[k - 1]? = some y) := ⟨_, List.getElem?_eq_getElem (by rw [hn.out]; omega)⟩
        obtain ⟨g', off', he, hg', t0, _⟩ := (H1.out.ext X.out (Nat.le_refl _)).element (k - 1) y hyk.out
        simp only [Option.some.injEq, Addr.mk.injEq, and_true] at he
        obtain ⟨rfl, rfl⟩ := he
        have HU : Hid (elAt d1 k = (eb && ltS y.1 x.1)) := by show _ = _; rw [EA.out, upB_succ kp hyk.out hxk.out]
        have TK : W1.cell? ⟨g, off + (k - 1) * 4, none⟩ = some (.string (bs y.1)) := (x1.cell (by show g < _; omega)).trans t0
        obtain ⟨lt, hlt9⟩ : ∃ lt, Op.bytesLess (bs y.1).toList (bs x.1).toList = lt := ⟨_, rfl⟩
        rw [show ltS y.1 x.1 = lt from hlt9] at HU
        have k1 : (k : Int) - 1 = ((k - 1 : Nat) : Int) := by omega
        have K1 := hide k1
        clear EA k1 t0
        cases e0 : nameB x.1
        case false =>
          have hf : eb = false := by rw [← LE.out]; simp [elB, e0]
          have HF := hide (HS.out (range_stop hlt (by rw [HU.out, hf] <;> rfl)))
          clear hf
          clear hlt9
          go_wp2_with (first | (go_at_call 73; refine (i.IsElementName_any x.1 _ xl).mono ?_; rintro e w' ⟨rfl, rfl⟩) | (go_at_call 74; refine (i.isFamily_any _ _).mono ?_; rintro e w' ⟨rfl, rfl⟩) | (go_at_call 60; refine (i.within_any _ _ _ _).mono ?_; rintro e w' ⟨rfl, rfl⟩))
          go_ret
          exact ⟨ret_bool HF.out.symm, by first | exact X.out.trans (Ext.alloc _ _) | (rw [← hW1.out]; exact X.out.trans x1)⟩
        cases e1 : inB 0 4 x.2.1
        case false =>
          have hf : eb = false := by rw [← LE.out]; simp [elB, e1]
          have HF := hide (HS.out (range_stop hlt (by rw [HU.out, hf] <;> rfl)))
          clear hf
          clear hlt9
          go_wp2_with (first | (go_at_call 73; refine (i.IsElementName_any x.1 _ xl).mono ?_; rintro e w' ⟨rfl, rfl⟩) | (go_at_call 74; refine (i.isFamily_any _ _).mono ?_; rintro e w' ⟨rfl, rfl⟩) | (go_at_call 60; refine (i.within_any _ _ _ _).mono ?_; rintro e w' ⟨rfl, rfl⟩))
          go_ret
          exact ⟨ret_bool HF.out.symm, by first | exact X.out.trans (Ext.alloc _ _) | (rw [← hW1.out]; exact X.out.trans x1)⟩
        cases e2 : inB 0 4 x.2.2.1
        case false =>
          have hf : eb = false := by rw [← LE.out]; simp [elB, e2]
          have HF := hide (HS.out (range_stop hlt (by rw [HU.out, hf] <;> rfl)))
          clear hf
          clear hlt9
          go_wp2_with (first | (go_at_call 73; refine (i.IsElementName_any x.1 _ xl).mono ?_; rintro e w' ⟨rfl, rfl⟩) | (go_at_call 74; refine (i.isFamily_any _ _).mono ?_; rintro e w' ⟨rfl, rfl⟩) | (go_at_call 60; refine (i.within_any _ _ _ _).mono ?_; rintro e w' ⟨rfl, rfl⟩))
          go_ret
          exact ⟨ret_bool HF.out.symm, by first | exact X.out.trans (Ext.alloc _ _) | (rw [← hW1.out]; exact X.out.trans x1)⟩
        cases e3 : inB 1 2000 x.2.2.2
        case false =>
          have hf : eb = false := by rw [← LE.out]; simp [elB, e3]
          have HF := hide (HS.out (range_stop hlt (by rw [HU.out, hf] <;> rfl)))
          clear hf
          clear hlt9
          go_wp2_with (first | (go_at_call 73; refine (i.IsElementName_any x.1 _ xl).mono ?_; rintro e w' ⟨rfl, rfl⟩) | (go_at_call 74; refine (i.isFamily_any _ _).mono ?_; rintro e w' ⟨rfl, rfl⟩) | (go_at_call 60; refine (i.within_any _ _ _ _).mono ?_; rintro e w' ⟨rfl, rfl⟩))
          go_ret
          exact ⟨ret_bool HF.out.symm, by first | exact X.out.trans (Ext.alloc _ _) | (rw [← hW1.out]; exact X.out.trans x1)⟩
        have ht : eb = true := by rw [← LE.out]; simp [elB, e0, e1, e2, e3]
        rw [ht] at HU
        clear ht
        have X1 := hide (X.out.trans x1)
        have B2 := hide (B0.out.ext x1)
        clear x1
        have kI : decide ((0 : Int) < (k : Int)) = true := by simp; omega
        go_wp2_with (first | (go_at_call 73; refine (i.IsElementName_any x.1 _ xl).mono ?_; rintro e w' ⟨rfl, rfl⟩) | (go_at_call 74; refine (i.isFamily_any _ _).mono ?_; rintro e w' ⟨rfl, rfl⟩) | (go_at_call 60; refine (i.within_any _ _ _ _).mono ?_; rintro e w' ⟨rfl, rfl⟩))
        rw [← hW1.out]
        clear hW1
        have c0_ := B2.out.cell; have c1_ := B1.out.cell
        have k1 := K1.out
        cases lt
        · go_quiet (fail)
          have HF := hide (HS.out (range_stop hlt (by rw [HU.out]; simp)))
          clear hlt9 k1
          go_wp2
          go_ret
          exact ⟨ret_bool HF.out.symm, X1.out.trans (Ext.drewN _ _)⟩
        · go_quiet (fail)
          clear hlt9 k1
          go_wp2
          go_roundw
          case rel => exact ⟨k + 1, by omega, by go_num, range_step HA.out (by rw [HU.out]; simp), B2.out.ext (Ext.drewN _ _), X1.out.trans (Ext.drewN _ _)⟩
          case measure => simp [intOf]; omega
    · have HE : Hid ((List.range n).all (elAt d1) = true) := by rw [show n = k from by omega]; exact HA.out
      have HF : Hid (R = true) := by show _ = _; rw [SE.out, HE.out]
      go_wp2
      go_ret
      exact ⟨ret_bool HF.out.symm, X.out⟩
end Go.Proofs.YtaoeomgehpdedaaGreat

/- Codes that are valid: the reference. -/
namespace Go.Proofs.YtaoeomgehpdedaaGreat
open Go.RowKit Go.Sort
set_option linter.unusedVariables false

set_option maxRecDepth 100000 in
set_option maxHeartbeats 1000000 in
theorem s.cdGood_m (w : World) (v : Value) (d : CoD) (h : kC.rd w v d) (hok : kC.ok d) :
    Calls Tryz.prog 45 #[v] w fun e w' => e = .returned (.bool (codeB d)) ∧ Ext w w' := by
  obtain ⟨A, c, A', c', rfl, h1, h2⟩ := kC.lr h
  have hok : kdCo.wt d ≤ 1048576 := hok
  rw [kdCo.wt_eq] at hok
  obtain ⟨d1, d2, r, b, p, f⟩ := d
  dsimp only at *
  have hw1 : wtL kdEl d1 ≤ 1048576 := by have : kdElS.wt d1 = wtL kdEl d1 := rfl; omega
  have hw2 : d2.length ≤ 1048576 := by have : kdL.wt d2 = d2.length := wtL_int _; omega
  have k1 := wtL_len kdEl d1
  have a1 := h1.1; have a2 := h1.2.1; have a3 := h2.1; have a4 := h2.2.1
  have H1 := hide h1
  have AL := hide (fun (wq : World) (xq : Ext w wq) => s.l1All_any A' d2.length c' w.heap.size d2 0 9 wq (h2.sl.ext xq (Nat.le_refl _)) hw2)
  clear h h1 h2 hok
  obtain ⟨R, hR⟩ : ∃ R, Hid (codeB (d1, d2, r, b, p, f) = R) := ⟨_, rfl⟩
  rw [hR.out]
  obtain ⟨n, hn⟩ : ∃ n, Hid (d1.length = n) := ⟨_, rfl⟩
  obtain ⟨n', hn'⟩ : ∃ n', Hid (d2.length = n') := ⟨_, rfl⟩
  have SE : Hid (R = (inB 1 24 (n : Int) && ((n' : Int) == 5) && d2.all (inB 0 9) && inB 1 3 r && inB 0 20 b && inB 50 100 p && inB 0 500 f && (List.range n).all (elAt d1))) := by show _ = _; rw [← hR.out, ← hn.out, ← hn'.out]; rfl
  clear hR
  rw [hn.out] at k1 a1 ⊢
  rw [hn'.out] at AL a3 hw2 ⊢
  have n1 : n ≤ 1048576 := by omega
  clear hw1 k1
  generalize hl : d2.all (inB 0 9) = lb at *
  clear hl
  obtain ⟨W0, hW0⟩ : ∃ W0, Hid (W0 = w.alloc (.cells #[.slice A n c, .slice A' n' c', .int .i64 r, .int .i64 b, .int .i64 p, .int .i64 f] 26)) := ⟨_, rfl⟩
  have X : Hid (Ext w W0) := by rw [hW0.out]; exact Ext.alloc w _
  have B0 : Hid (Blk W0 w.heap.size #[.slice A n c, .slice A' n' c', .int .i64 r, .int .i64 b, .int .i64 p, .int .i64 f] 26) := by rw [hW0.out]; exact Blk.new rfl _ _
  have SEL := hide (fun (k : Nat) (x : ElD) (h : d1[k]? = some x) => elAt_some h)
  go_enter Tryz.func45, Tryz.ntmps45
  go_wp2
  rw [← hW0.out]
  clear hW0
  go_loopw [8] (fun i wr => ∃ (k : Nat), k ≤ n ∧ i = .int .i64 k ∧ (List.range k).all (elAt d1) = true ∧ Blk wr w.heap.size #[.slice A n c, .slice A' n' c', .int .i64 r, .int .i64 b, .int .i64 p, .int .i64 f] 26 ∧ Ext w wr) (fun i _ => n - (intOf i).toNat)
  case atStart => exact ⟨0, Nat.zero_le _, rfl, rfl, B0.out, X.out⟩
  case round =>
    obtain ⟨k, hk, rfl, hall, hb0, hx⟩ := hrel
    clear B0 X
    have HA := hide hall
    have B0 := hide hb0
    have X := hide hx
    clear hall hb0 hx
    by_cases hlt : k < n
    · obtain ⟨x, hxk⟩ : ∃ x, Hid (d1[k]? = some x) := ⟨_, List.getElem?_eq_getElem (by rw [hn.out]; exact hlt)⟩
      obtain ⟨g, off, rfl, hg, u0, u1, u2, u3, xl⟩ := (H1.out.ext X.out (Nat.le_refl _)).element k x hxk.out
      have sz := X.out.size
      have S1 := SEL.out k x hxk.out
      obtain ⟨eb, heb⟩ : ∃ eb, Hid (elB x = eb) := ⟨_, rfl⟩
      rw [heb.out] at S1
      have EA := hide S1
      have LE := hide heb.out
      clear S1
      obtain ⟨W1, hW1⟩ : ∃ W1, Hid (W1 = wr.alloc (.cells #[.string (bs x.1), .int .i64 x.2.1, .int .i64 x.2.2.1, .int .i64 x.2.2.2] 84)) := ⟨_, rfl⟩
      have x1 : Ext wr W1 := by rw [hW1.out]; exact Ext.alloc _ _
      have B1 : Hid (Blk W1 wr.heap.size #[.string (bs x.1), .int .i64 x.2.1, .int .i64 x.2.2.1, .int .i64 x.2.2.2] 84) := by rw [hW1.out]; exact Blk.new rfl _ _
      have HS : Hid ((List.range n).all (elAt d1) = false → R = false) := fun h9 => by rw [SE.out, h9]; simp
      by_cases hk0 : k = 0
      · have HU : Hid (elAt d1 k = eb) := by show _ = _; rw [EA.out, hk0, upB_zero]; simp
        have kp : ¬ (0 < k) := by omega
        clear EA
        have kI : decide ((0 : Int) < (k : Int)) = false := by simp; omega
        clear hk0
        have CE := hide (fun dd os => ext_regrown (s.cdElement_any x (grow (redrawn W1 dd) os) xl))
        rw [heb.out] at CE
        have X1 := hide (X.out.trans x1)
        have B2 := hide (B0.out.ext x1)
        clear x1
        go_wp2
        rw [← hW1.out]
        clear hW1 u0 u1 u2 u3
        have c0_ := fun dd os => cell_regrown (show W1.cell? ⟨w.heap.size, 0, none⟩ = some (.slice (some ⟨g, off, none⟩) n c) from B2.out.cell 0) dd os
        have c10_ := fun dd os => cell_regrown (show W1.cell? ⟨wr.heap.size, 0, none⟩ = some (.string (bs x.1)) from B1.out.cell 0) dd os
        have c11_ := fun dd os => cell_regrown (show W1.cell? ⟨wr.heap.size, 1, none⟩ = some (.int .i64 x.2.1) from B1.out.cell 1) dd os
        have c12_ := fun dd os => cell_regrown (show W1.cell? ⟨wr.heap.size, 2, none⟩ = some (.int .i64 x.2.2.1) from B1.out.cell 2) dd os
        have c13_ := fun dd os => cell_regrown (show W1.cell? ⟨wr.heap.size, 3, none⟩ = some (.int .i64 x.2.2.2) from B1.out.cell 3) dd os
        cases eb
        case false =>
          refine wp_region_quiet_below (by kernel_rfl) (by kernel_rfl) ?_
          repeat (go_big_quiet_step (exact CE.out _ _))
          refine wpQuiet_nil ?_
          intro _ hw'
          obtain ⟨⟨dq, osq⟩, hw''⟩ := hw'
          subst hw''
          have Y2 := hide (ext_re W1 dq osq)
          clear c0_ c10_ c11_ c12_ c13_
          generalize grow (redrawn W1 dq) osq = w2 at *
          have HF := hide (HS.out (range_stop hlt (by rw [HU.out])))
          go_wp2
          go_ret
          exact ⟨ret_bool HF.out.symm, X1.out.trans Y2.out⟩
        case true =>
          refine wp_region_quiet_below (by kernel_rfl) (by kernel_rfl) ?_
          repeat (go_big_quiet_step (exact CE.out _ _))
          refine wpQuiet_nil ?_
          intro _ hw'
          obtain ⟨⟨dq, osq⟩, hw''⟩ := hw'
          subst hw''
          have Y2 := hide (ext_re W1 dq osq)
          clear c0_ c10_ c11_ c12_ c13_
          generalize grow (redrawn W1 dq) osq = w2 at *
          go_wp2
          go_roundw
          case rel => exact ⟨k + 1, by omega, by go_num, range_step HA.out (by rw [HU.out]), B2.out.ext Y2.out, X1.out.trans Y2.out⟩
          case measure => simp [intOf]; omega
      · have kp : 0 < k := by omega
        obtain ⟨y, hyk⟩ : ∃ y, Hid (d1[k - 1]? = some y) := ⟨_, List.getElem?_eq_getElem (by rw [hn.out]; omega)⟩
        obtain ⟨g', off', he, hg', t0, _⟩ := (H1.out.ext X.out (Nat.le_refl _)).element (k - 1) y hyk.out
        simp only [Option.some.injEq, Addr.mk.injEq, and_true] at he
        obtain ⟨rfl, rfl⟩ := he
        have HU : Hid (elAt d1 k = (eb && ltS y.1 x.1)) := by show _ = _; rw [EA.out, upB_succ kp hyk.out hxk.out]
        have TK : W1.cell? ⟨g, off + (k - 1) * 4, none⟩ = some (.string (bs y.1)) := (x1.cell (by show g < _; omega)).trans t0
        obtain ⟨lt, hlt9⟩ : ∃ lt, Op.bytesLess (bs y.1).toList (bs x.1).toList = lt := ⟨_, rfl⟩
        rw [show ltS y.1 x.1 = lt from hlt9] at HU
        have k1 : (k : Int) - 1 = ((k - 1 : Nat) : Int) := by omega
        have K1 := hide k1
        clear EA k1 t0
        have CE := hide (fun dd os => ext_regrown (s.cdElement_any x (grow (redrawn W1 dd) os) xl))
        rw [heb.out] at CE
        have X1 := hide (X.out.trans x1)
        have B2 := hide (B0.out.ext x1)
        clear x1
        have kI : decide ((0 : Int) < (k : Int)) = true := by simp; omega
        go_wp2
        rw [← hW1.out]
        clear hW1 u0 u1 u2 u3
        have c0_ := fun dd os => cell_regrown (show W1.cell? ⟨w.heap.size, 0, none⟩ = some (.slice (some ⟨g, off, none⟩) n c) from B2.out.cell 0) dd os
        have c10_ := fun dd os => cell_regrown (show W1.cell? ⟨wr.heap.size, 0, none⟩ = some (.string (bs x.1)) from B1.out.cell 0) dd os
        have c11_ := fun dd os => cell_regrown (show W1.cell? ⟨wr.heap.size, 1, none⟩ = some (.int .i64 x.2.1) from B1.out.cell 1) dd os
        have c12_ := fun dd os => cell_regrown (show W1.cell? ⟨wr.heap.size, 2, none⟩ = some (.int .i64 x.2.2.1) from B1.out.cell 2) dd os
        have c13_ := fun dd os => cell_regrown (show W1.cell? ⟨wr.heap.size, 3, none⟩ = some (.int .i64 x.2.2.2) from B1.out.cell 3) dd os
        have t1_ := fun dd os => cell_regrown TK dd os
        have k1 := K1.out
        cases eb
        case false =>
          refine wp_region_quiet_below (by kernel_rfl) (by kernel_rfl) ?_
          repeat (go_big_quiet_step (exact CE.out _ _))
          refine wpQuiet_nil ?_
          intro _ hw'
          obtain ⟨⟨dq, osq⟩, hw''⟩ := hw'
          subst hw''
          have Y2 := hide (ext_re W1 dq osq)
          clear c0_ c10_ c11_ c12_ c13_ t1_ k1 hlt9
          generalize grow (redrawn W1 dq) osq = w2 at *
          have HF := hide (HS.out (range_stop hlt (by rw [HU.out]; simp)))
          go_wp2
          go_ret
          exact ⟨ret_bool HF.out.symm, X1.out.trans Y2.out⟩
        case true =>
          cases lt
          case false =>
            refine wp_region_quiet_below (by kernel_rfl) (by kernel_rfl) ?_
            repeat (go_big_quiet_step (exact CE.out _ _))
            refine wpQuiet_nil ?_
            intro _ hw'
            obtain ⟨⟨dq, osq⟩, hw''⟩ := hw'
            subst hw''
            have Y2 := hide (ext_re W1 dq osq)
            clear c0_ c10_ c11_ c12_ c13_ t1_ k1 hlt9
            generalize grow (redrawn W1 dq) osq = w2 at *
            have HF := hide (HS.out (range_stop hlt (by rw [HU.out]; simp)))
            go_wp2
            go_ret
            exact ⟨ret_bool HF.out.symm, X1.out.trans Y2.out⟩
          case true =>
            refine wp_region_quiet_below (by kernel_rfl) (by kernel_rfl) ?_
            repeat (go_big_quiet_step (exact CE.out _ _))
            refine wpQuiet_nil ?_
            intro _ hw'
            obtain ⟨⟨dq, osq⟩, hw''⟩ := hw'
            subst hw''
            have Y2 := hide (ext_re W1 dq osq)
            clear c0_ c10_ c11_ c12_ c13_ t1_ k1 hlt9
            generalize grow (redrawn W1 dq) osq = w2 at *
            go_wp2
            go_roundw
            case rel => exact ⟨k + 1, by omega, by go_num, range_step HA.out (by rw [HU.out]; simp), B2.out.ext Y2.out, X1.out.trans Y2.out⟩
            case measure => simp [intOf]; omega
    · have HE : Hid ((List.range n).all (elAt d1) = true) := by rw [show n = k from by omega]; exact HA.out
      replace SE : Hid (R = (inB 1 24 (n : Int) && ((n' : Int) == 5) && lb && inB 1 3 r && inB 0 20 b && inB 50 100 p && inB 0 500 f)) := by show _ = _; rw [SE.out, HE.out]; simp
      have cB := B0.out.cell
      clear HE
      cases q0 : inB 1 24 (n : Int)
      case false =>
        have HF : Hid (R = false) := by show _ = _; rw [SE.out]; simp [q0]
        go_wp2_with (first | (go_at_call 67; refine (s.l1In_any _ _ _ _).mono ?_; rintro e w' ⟨rfl, rfl⟩) | (go_at_call 79; refine (AL.out _ X.out).mono ?_; rintro e w' ⟨rfl, rfl⟩))
        go_ret
        exact ⟨ret_bool HF.out.symm, X.out⟩
      replace SE : Hid (R = (((n' : Int) == 5) && lb && inB 1 3 r && inB 0 20 b && inB 50 100 p && inB 0 500 f)) := by show _ = _; rw [SE.out, q0]; simp
      by_cases q1 : n' = 5
      case neg =>
        have b5 : ((n' : Int) != 5) = true := by rw [bne_iff_ne]; intro h8; exact q1 (by omega)
        have b6 : ((n' : Int) == 5) = false := by rw [beq_eq_false_iff_ne]; intro h8; exact q1 (by omega)
        have HF : Hid (R = false) := by show _ = _; rw [SE.out]; simp [b6]
        clear q1
        go_wp2_with (first | (go_at_call 67; refine (s.l1In_any _ _ _ _).mono ?_; rintro e w' ⟨rfl, rfl⟩) | (go_at_call 79; refine (AL.out _ X.out).mono ?_; rintro e w' ⟨rfl, rfl⟩))
        go_ret
        exact ⟨ret_bool HF.out.symm, X.out⟩
      have b5 : ((n' : Int) != 5) = false := by simp [q1]
      have b6 : ((n' : Int) == 5) = true := by simp [q1]
      replace SE : Hid (R = (lb && inB 1 3 r && inB 0 20 b && inB 50 100 p && inB 0 500 f)) := by show _ = _; rw [SE.out, b6]; simp
      have q51 : n' ≤ 5 ∧ 5 ≤ n' := by omega
      clear q1
      cases lb
      case false =>
        have HF : Hid (R = false) := by show _ = _; rw [SE.out]; simp
        go_wp2_with (first | (go_at_call 67; refine (s.l1In_any _ _ _ _).mono ?_; rintro e w' ⟨rfl, rfl⟩) | (go_at_call 79; refine (AL.out _ X.out).mono ?_; rintro e w' ⟨rfl, rfl⟩))
        go_ret
        exact ⟨ret_bool HF.out.symm, X.out⟩
      replace SE : Hid (R = (inB 1 3 r && inB 0 20 b && inB 50 100 p && inB 0 500 f)) := by show _ = _; rw [SE.out]; simp
      cases q3 : inB 1 3 r
      case false =>
        have HF : Hid (R = false) := by show _ = _; rw [SE.out]; simp [q3]
        go_wp2_with (first | (go_at_call 67; refine (s.l1In_any _ _ _ _).mono ?_; rintro e w' ⟨rfl, rfl⟩) | (go_at_call 79; refine (AL.out _ X.out).mono ?_; rintro e w' ⟨rfl, rfl⟩))
        go_ret
        exact ⟨ret_bool HF.out.symm, X.out⟩
      replace SE : Hid (R = (inB 0 20 b && inB 50 100 p && inB 0 500 f)) := by show _ = _; rw [SE.out, q3]; simp
      cases q4 : inB 0 20 b
      case false =>
        have HF : Hid (R = false) := by show _ = _; rw [SE.out]; simp [q4]
        go_wp2_with (first | (go_at_call 67; refine (s.l1In_any _ _ _ _).mono ?_; rintro e w' ⟨rfl, rfl⟩) | (go_at_call 79; refine (AL.out _ X.out).mono ?_; rintro e w' ⟨rfl, rfl⟩))
        go_ret
        exact ⟨ret_bool HF.out.symm, X.out⟩
      replace SE : Hid (R = (inB 50 100 p && inB 0 500 f)) := by show _ = _; rw [SE.out, q4]; simp
      cases q5 : inB 50 100 p
      case false =>
        have HF : Hid (R = false) := by show _ = _; rw [SE.out]; simp [q5]
        go_wp2_with (first | (go_at_call 67; refine (s.l1In_any _ _ _ _).mono ?_; rintro e w' ⟨rfl, rfl⟩) | (go_at_call 79; refine (AL.out _ X.out).mono ?_; rintro e w' ⟨rfl, rfl⟩))
        go_ret
        exact ⟨ret_bool HF.out.symm, X.out⟩
      replace SE : Hid (R = (inB 0 500 f)) := by show _ = _; rw [SE.out, q5]; simp
      cases q6 : inB 0 500 f
      case false =>
        have HF : Hid (R = false) := by show _ = _; rw [SE.out]; simp [q6]
        go_wp2_with (first | (go_at_call 67; refine (s.l1In_any _ _ _ _).mono ?_; rintro e w' ⟨rfl, rfl⟩) | (go_at_call 79; refine (AL.out _ X.out).mono ?_; rintro e w' ⟨rfl, rfl⟩))
        go_ret
        exact ⟨ret_bool HF.out.symm, X.out⟩
      replace SE : Hid (R = (true)) := by show _ = _; rw [SE.out, q6]
      have HF : Hid (R = true) := by show _ = _; rw [SE.out]
      go_wp2_with (first | (go_at_call 67; refine (s.l1In_any _ _ _ _).mono ?_; rintro e w' ⟨rfl, rfl⟩) | (go_at_call 79; refine (AL.out _ X.out).mono ?_; rintro e w' ⟨rfl, rfl⟩))
      go_ret
      exact ⟨ret_bool HF.out.symm, X.out⟩
end Go.Proofs.YtaoeomgehpdedaaGreat

/- The element with a name; lists of items whose names are known. -/
namespace Go.Proofs.YtaoeomgehpdedaaGreat
open Go.RowKit Go.Sort
set_option linter.unusedVariables false

theorem bs_toList (x : List UInt8) : (bs x).toList = x := Go.ByteArray.toList_mk x
def findF : List ElD → List UInt8 → Int
  | [], _ => -1
  | x :: t, nm => if x.1 == nm then 0 else if findF t nm < 0 then -1 else findF t nm + 1
def neN (nm : List UInt8) (x : ElD) : Bool := !(x.1 == nm)
theorem findF_hit {xs : List ElD} {nm : List UInt8} {k : Nat} {x : ElD} (hx : xs[k]? = some x) (h : (xs.take k).all (neN nm) = true) (h1 : (x.1 == nm) = true) : findF xs nm = k := by
  induction xs generalizing k with
  | nil => simp at hx
  | cons y t ih =>
    cases k with
    | zero => simp at hx; subst hx; simp [findF, h1]
    | succ k =>
      simp at hx
      simp only [List.take_succ_cons, List.all_cons, Bool.and_eq_true] at h
      have h2 : (y.1 == nm) = false := by have := h.1; simpa [neN] using this
      have h3 := ih hx h.2
      rw [findF, h2, h3]
      simp
      omega
theorem findF_none {xs : List ElD} {nm : List UInt8} (h : xs.all (neN nm) = true) : findF xs nm = -1 := by
  induction xs with
  | nil => rfl
  | cons y t ih =>
    simp only [List.all_cons, Bool.and_eq_true] at h
    have h2 : (y.1 == nm) = false := by have := h.1; simpa [neN] using this
    rw [findF, h2, ih h.2]
    simp
theorem findF_some {xs : List ElD} {nm : List UInt8} (h : 0 ≤ findF xs nm) : ∃ (k : Nat) (x : ElD), findF xs nm = k ∧ xs[k]? = some x ∧ x.1 = nm := by
  induction xs with
  | nil => simp [findF] at h
  | cons y t ih =>
    by_cases h2 : (y.1 == nm) = true
    · exact ⟨0, y, by simp [findF, h2], rfl, by simpa using h2⟩
    · rw [findF, if_neg h2] at h ⊢
      by_cases h3 : findF t nm < 0
      · rw [if_pos h3] at h; omega
      · rw [if_neg h3]
        obtain ⟨k, x, e1, e2, e3⟩ := ih (by omega)
        exact ⟨k + 1, x, by rw [e1]; omega, by simpa using e2, e3⟩
theorem findF_ge (xs : List ElD) (nm : List UInt8) : -1 ≤ findF xs nm := by
  by_cases h : 0 ≤ findF xs nm
  · omega
  · induction xs with
    | nil => simp [findF]
    | cons y t ih =>
      unfold findF
      split
      · omega
      · split <;> omega
theorem findF_lt (xs : List ElD) (nm : List UInt8) : findF xs nm < xs.length ∨ findF xs nm = -1 := by
  by_cases h : 0 ≤ findF xs nm
  · obtain ⟨k, x, e, hx, _⟩ := findF_some h
    have := (List.getElem?_eq_some_iff.1 hx).1
    omega
  · have := findF_ge xs nm; omega

set_option maxHeartbeats 1000000 in
theorem closFind (x : ElD) (nm : List UInt8) (g : Nat) (w : World) (hg : w.cell? ⟨g, 0, none⟩ = some (.string (bs nm))) :
    Calls Tryz.prog 127 #[.agg #[.string (bs x.1), .int .i64 x.2.1, .int .i64 x.2.2.1, .int .i64 x.2.2.2], .pointer (some ⟨g, 0, none⟩)] w fun e w' => e = .returned (.bool (x.1 == nm)) ∧ Ext w w' := by
  have X0 := hide (Ext.alloc w (.cells #[.string (bs x.1), .int .i64 x.2.1, .int .i64 x.2.2.1, .int .i64 x.2.2.2] 84))
  have hg2 : (w.alloc (.cells #[.string (bs x.1), .int .i64 x.2.1, .int .i64 x.2.2.1, .int .i64 x.2.2.2] 84)).cell? ⟨g, 0, none⟩ = some (.string (bs nm)) := (X0.out.cell (World.block_lt_of_cell? w _ hg)).trans hg
  have E1 : Hid (((bs x.1).toList == (bs nm).toList) = (x.1 == nm)) := by show _ = _; rw [bs_toList, bs_toList]
  clear hg
  generalize bs x.1 = xb at *
  generalize bs nm = nb at *
  generalize x.2.1 = y1 at *
  generalize x.2.2.1 = y2 at *
  generalize x.2.2.2 = y3 at *
  go_enter Tryz.func127, Tryz.ntmps127
  go_wp2
  go_ret
  exact ⟨ret_bool E1.out, X0.out⟩

set_option maxHeartbeats 1000000 in
theorem indexFind (A : Option Addr) (c B : Nat) (xs : List ElD) (nm : List UInt8) (g : Nat) (w : World) (h : LR kdEl w B A c xs) (hB : B ≤ w.heap.size) (hn : xs.length ≤ 1048576) (hg : w.cell? ⟨g, 0, none⟩ = some (.string (bs nm))) :
    Calls Tryz.prog 126 #[.slice A xs.length c, .func (.func 127) #[] #[.pointer (some ⟨g, 0, none⟩)]] w fun e w' => e = .returned (.int .i64 (findF xs nm)) ∧ Ext w w' := by
  have H := hide h
  have HG := hide hg
  have a1 := h.1; have a2 := h.2.1
  have gl := World.block_lt_of_cell? w _ hg
  have gl : g < w.heap.size := gl
  clear h hg
  obtain ⟨n, hnn⟩ : ∃ n, Hid (xs.length = n) := ⟨_, rfl⟩
  rw [hnn.out] at a1 hn ⊢
  go_enter Tryz.func126, Tryz.ntmps126
  go_wp2
  go_loopw [8] (fun i wr => ∃ (k : Nat), k ≤ n ∧ i = .int .i64 k ∧ (xs.take k).all (neN nm) = true ∧ Ext w wr) (fun i _ => n - (intOf i).toNat)
  case atStart => exact ⟨0, Nat.zero_le _, rfl, rfl, Ext.refl _⟩
  case round =>
    obtain ⟨k, hk, rfl, hall, hx⟩ := hrel
    have HA := hide hall
    have HX := hide hx
    clear hall hx
    by_cases hlt : k < n
    · obtain ⟨x, hxk⟩ : ∃ x, Hid (xs[k]? = some x) := ⟨_, List.getElem?_eq_getElem (by rw [hnn.out]; exact hlt)⟩
      obtain ⟨b, off, rfl, hb, u0, u1, u2, u3, xl⟩ := (H.out.ext HX.out hB).element k x hxk.out
      have CF := hide (closFind x nm g wr ((HX.out.cell gl).trans HG.out))
      cases he : (x.1 == nm)
      · rw [he] at CF
        have HN : Hid (neN nm x = true) := by show _ = _; simp [neN, he]
        clear he
        go_wp2_with fail
        refine CF.out.mono ?_
        rintro e w2 ⟨rfl, x2⟩
        replace HX := hide (HX.out.trans x2)
        clear x2 u0 u1 u2 u3
        go_wp2
        go_roundw
        case rel => exact ⟨k + 1, by omega, by go_num, allL_step hxk.out HA.out HN.out, HX.out⟩
        case measure => simp [intOf]; omega
      · rw [he] at CF
        have HF := hide (findF_hit hxk.out HA.out he)
        clear he
        go_wp2_with fail
        refine CF.out.mono ?_
        rintro e w2 ⟨rfl, x2⟩
        replace HX := hide (HX.out.trans x2)
        clear x2 u0 u1 u2 u3
        go_wp2
        go_ret
        exact ⟨ret_int HF.out.symm, HX.out⟩
    · have HF := hide (findF_none (allL_end (by rw [hnn.out]; omega) HA.out))
      go_wp2
      go_ret
      exact ⟨ret_int HF.out.symm, HX.out⟩

set_option maxRecDepth 100000 in
set_option maxHeartbeats 1000000 in
theorem i.findElement_m (w : World) (v : Value) (d : CoD) (nm : List UInt8) (h : kC.rd w v d) (hok : kC.ok d) :
    Calls Tryz.prog 104 #[v, .string (bs nm)] w fun e w' => e = .returned (.int .i64 (findF d.1 nm)) ∧ Ext w w' := by
  obtain ⟨A, c, A', c', rfl, h1, h2⟩ := kC.lr h
  have hok : kdCo.wt d ≤ 1048576 := hok
  rw [kdCo.wt_eq] at hok
  obtain ⟨d1, d2, r, b, p, f⟩ := d
  dsimp only at *
  have hw1 : wtL kdEl d1 ≤ 1048576 := by have : kdElS.wt d1 = wtL kdEl d1 := rfl; omega
  have k1 := wtL_len kdEl d1
  have a1 := h1.1; have a2 := h1.2.1; have a3 := h2.1; have a4 := h2.2.1
  have H1 := hide h1
  clear h h1 h2 hok
  obtain ⟨n, hn⟩ : ∃ n, Hid (d1.length = n) := ⟨_, rfl⟩
  obtain ⟨n', hn'⟩ : ∃ n', Hid (d2.length = n') := ⟨_, rfl⟩
  rw [hn.out] at k1 a1 ⊢
  rw [hn'.out] at a3 ⊢
  have n1 : n ≤ 1048576 := by omega
  clear hw1 k1
  obtain ⟨W0, hW0⟩ : ∃ W0, Hid (W0 = (w.alloc (.cells #[.slice A n c, .slice A' n' c', .int .i64 r, .int .i64 b, .int .i64 p, .int .i64 f] 26)).alloc (.cells #[.string (bs nm)] 9)) := ⟨_, rfl⟩
  have X : Hid (Ext w W0) := by rw [hW0.out]; exact (Ext.alloc w _).trans (Ext.alloc _ _)
  have B1 : Hid (Blk W0 (w.heap.size + 1) #[.string (bs nm)] 9) := by rw [hW0.out]; exact Blk.new (by simp) _ _
  have IX := indexFind A c w.heap.size d1 nm (w.heap.size + 1) W0 (H1.out.ext X.out (Nat.le_refl _)) X.out.size (by rw [hn.out]; exact n1) (B1.out.cell 0)
  rw [hn.out] at IX
  replace IX := hide IX
  generalize bs nm = nb at *
  go_enter Tryz.func104, Tryz.ntmps104
  go_wp2_with fail
  rw [← hW0.out]
  clear hW0
  refine IX.out.mono ?_
  rintro e w1 ⟨rfl, x1⟩
  replace X := hide (X.out.trans x1)
  clear x1
  go_wp2
  go_ret
  exact ⟨rfl, X.out⟩

set_option maxRecDepth 100000 in
set_option maxHeartbeats 1000000 in
theorem s.cdFind_m (w : World) (v : Value) (d : CoD) (nm : List UInt8) (h : kC.rd w v d) (hok : kC.ok d) :
    Calls Tryz.prog 125 #[v, .string (bs nm)] w fun e w' => e = .returned (.int .i64 (findF d.1 nm)) ∧ Ext w w' := by
  obtain ⟨A, c, A', c', rfl, h1, h2⟩ := kC.lr h
  have hok : kdCo.wt d ≤ 1048576 := hok
  rw [kdCo.wt_eq] at hok
  obtain ⟨d1, d2, r, b, p, f⟩ := d
  dsimp only at *
  have hw1 : wtL kdEl d1 ≤ 1048576 := by have : kdElS.wt d1 = wtL kdEl d1 := rfl; omega
  have k1 := wtL_len kdEl d1
  have a1 := h1.1; have a2 := h1.2.1; have a3 := h2.1; have a4 := h2.2.1
  have H1 := hide h1
  clear h h1 h2 hok
  obtain ⟨n, hn⟩ : ∃ n, Hid (d1.length = n) := ⟨_, rfl⟩
  obtain ⟨n', hn'⟩ : ∃ n', Hid (d2.length = n') := ⟨_, rfl⟩
  rw [hn.out] at k1 a1 ⊢
  rw [hn'.out] at a3 ⊢
  have n1 : n ≤ 1048576 := by omega
  clear hw1 k1
  obtain ⟨W0, hW0⟩ : ∃ W0, Hid (W0 = w.alloc (.cells #[.slice A n c, .slice A' n' c', .int .i64 r, .int .i64 b, .int .i64 p, .int .i64 f] 26)) := ⟨_, rfl⟩
  have X : Hid (Ext w W0) := by rw [hW0.out]; exact Ext.alloc w _
  have EQ : Hid (∀ x : ElD, ((bs x.1).toList == (bs nm).toList) = (x.1 == nm)) := fun x => by rw [bs_toList, bs_toList]
  generalize bs nm = nb at *
  go_enter Tryz.func125, Tryz.ntmps125
  go_wp2
  rw [← hW0.out]
  clear hW0
  go_loopw [10] (fun i wr => ∃ (k : Nat), k ≤ n ∧ i = .int .i64 k ∧ (d1.take k).all (neN nm) = true ∧ Ext w wr) (fun i _ => n - (intOf i).toNat)
  case atStart => exact ⟨0, Nat.zero_le _, rfl, rfl, X.out⟩
  case round =>
    obtain ⟨k, hk, rfl, hall, hx⟩ := hrel
    clear X
    have HA := hide hall
    have HX := hide hx
    clear hall hx
    by_cases hlt : k < n
    · obtain ⟨x, hxk⟩ : ∃ x, Hid (d1[k]? = some x) := ⟨_, List.getElem?_eq_getElem (by rw [hn.out]; exact hlt)⟩
      obtain ⟨g, off, rfl, hg, u0, u1, u2, u3, xl⟩ := (H1.out.ext HX.out (Nat.le_refl _)).element k x hxk.out
      have X2 := hide (HX.out.trans (Ext.alloc wr (.cells #[.string (bs x.1), .int .i64 x.2.1, .int .i64 x.2.2.1, .int .i64 x.2.2.2] 84)))
      have EX := EQ.out x
      cases he : (x.1 == nm)
      · rw [he] at EX
        have HN : Hid (neN nm x = true) := by show _ = _; simp [neN, he]
        clear he
        generalize bs x.1 = xb at *
        go_wp2
        go_roundw
        case rel => exact ⟨k + 1, by omega, by go_num, allL_step hxk.out HA.out HN.out, X2.out⟩
        case measure => simp [intOf]; omega
      · rw [he] at EX
        have HF := hide (findF_hit hxk.out HA.out he)
        clear he
        generalize bs x.1 = xb at *
        go_wp2
        go_ret
        exact ⟨ret_int HF.out.symm, X2.out⟩
    · have HF := hide (findF_none (allL_end (by rw [hn.out]; omega) HA.out))
      go_wp2
      go_ret
      exact ⟨ret_int HF.out.symm, HX.out⟩
end Go.Proofs.YtaoeomgehpdedaaGreat

/- Lists whose names are known; the worth of an element. -/
namespace Go.Proofs.YtaoeomgehpdedaaGreat
open Go.RowKit Go.Sort
set_option linter.unusedVariables false

def knownI (els : List ElD) (x : ItD) : Bool := x.1.all (fun nm => decide (0 ≤ findF els nm))
def knownB (els : List ElD) (xs : List ItD) : Bool := xs.all (knownI els)
theorem elB_ok {x : ElD} (h : elB x = true) : 0 ≤ x.2.1 ∧ x.2.1 ≤ 4 ∧ 0 ≤ x.2.2.1 ∧ x.2.2.1 ≤ 4 ∧ 1 ≤ x.2.2.2 ∧ x.2.2.2 ≤ 2000 := by
  simp only [elB, inB, Bool.and_eq_true, decide_eq_true_eq] at h
  omega
structure CodeOk (d : CoD) : Prop where
  n1 : 1 ≤ d.1.length
  n2 : d.1.length ≤ 24
  lim : d.2.1.length = 5
  limb : ∀ z ∈ d.2.1, 0 ≤ z ∧ z ≤ 9
  rep : 1 ≤ d.2.2.1 ∧ d.2.2.1 ≤ 3
  bon : 0 ≤ d.2.2.2.1 ∧ d.2.2.2.1 ≤ 20
  kep : 50 ≤ d.2.2.2.2.1 ∧ d.2.2.2.2.1 ≤ 100
  els : ∀ (k : Nat) (x : ElD), d.1[k]? = some x → elB x = true
theorem codeB_ok {d : CoD} (h : codeB d = true) : CodeOk d := by
  simp only [codeB, Bool.and_eq_true, beq_iff_eq, List.all_eq_true, List.mem_range] at h
  obtain ⟨⟨⟨⟨⟨⟨⟨h1, h2⟩, h3⟩, h4⟩, h5⟩, h6⟩, h7⟩, h8⟩ := h
  simp only [inB, Bool.and_eq_true, decide_eq_true_eq] at h1 h4 h5 h6 h7
  refine ⟨by omega, by omega, by omega, fun z hz => ?_, by omega, by omega, by omega, fun k x hx => ?_⟩
  · have := h3 z hz
    simp only [inB, Bool.and_eq_true, decide_eq_true_eq] at this
    exact this
  · have := h8 k (List.getElem?_eq_some_iff.1 hx).1
    rw [elAt_some hx, Bool.and_eq_true] at this
    exact this.1

set_option maxRecDepth 100000 in
set_option maxHeartbeats 1000000 in
theorem i.isKnown_m (w : World) (v : Value) (d : CoD) (A : Option Addr) (c B : Nat) (xs : List ItD) (h : kC.rd w v d) (hok : kC.ok d) (hi : LR kdItem w B A c xs) (hB : B ≤ w.heap.size) (hlen : xs.length ≤ 1048576) (hwt : ∀ (k : Nat) (x : ItD), xs[k]? = some x → kdItem.wt x ≤ 1048576) :
    Calls Tryz.prog 76 #[v, .slice A xs.length c] w fun e w' => e = .returned (.bool (knownB d.1 xs)) ∧ Ext w w' := by
  obtain ⟨Ac, nc, cc, Al, nl, cl, r, b, p, f, rfl⟩ := kC.shape h
  have HR := hide h
  have H := hide hi
  have HW := hide hwt
  have a1 := hi.1; have a2 := hi.2.1
  clear h hi hwt
  obtain ⟨R, hR⟩ : ∃ R, Hid (knownB d.1 xs = R) := ⟨_, rfl⟩
  rw [hR.out]
  obtain ⟨n, hn⟩ : ∃ n, Hid (xs.length = n) := ⟨_, rfl⟩
  rw [hn.out] at hlen a1 ⊢
  have n1 : n ≤ 1048576 := hlen
  clear hlen
  obtain ⟨W0, hW0⟩ : ∃ W0, Hid (W0 = w.alloc (.cells #[.slice Ac nc cc, .slice Al nl cl, .int .i64 r, .int .i64 b, .int .i64 p, .int .i64 f] 26)) := ⟨_, rfl⟩
  have X0 : Hid (Ext w W0) := by rw [hW0.out]; exact Ext.alloc w _
  have B0 : Hid (Blk W0 w.heap.size #[.slice Ac nc cc, .slice Al nl cl, .int .i64 r, .int .i64 b, .int .i64 p, .int .i64 f] 26) := by rw [hW0.out]; exact Blk.new rfl _ _
  go_enter Tryz.func76, Tryz.ntmps76
  go_wp2
  rw [← hW0.out]
  clear hW0
  go_loopw [11] (fun i wr => ∃ (k : Nat), k ≤ n ∧ i = .int .i64 k ∧ (xs.take k).all (knownI d.1) = true ∧ Ext W0 wr) (fun i _ => n - (intOf i).toNat)
  case atStart => exact ⟨0, Nat.zero_le _, rfl, rfl, Ext.refl _⟩
  case round =>
    obtain ⟨k, hk, rfl, hall, hx⟩ := hrel
    have HA := hide hall
    have HX := hide hx
    clear hall hx
    by_cases hlt : k < n
    · obtain ⟨x, hxk⟩ : ∃ x, Hid (xs[k]? = some x) := ⟨_, List.getElem?_eq_getElem (by rw [hn.out]; exact hlt)⟩
      have XW := hide (X0.out.trans HX.out)
      obtain ⟨bb, off, A1, c1, A2, c2, rfl, hb, q0, q1, q2, r1, r2⟩ := (H.out.ext XW.out hB).item k x hxk.out
      obtain ⟨k1, k2, _⟩ := kdItem.wt_le (HW.out k x hxk.out)
      have sz := XW.out.size
      obtain ⟨W1, hW1⟩ : ∃ W1, Hid (W1 = wr.alloc (.cells #[.slice A1 x.1.length c1, .slice A2 x.2.1.length c2, .bool x.2.2] 47)) := ⟨_, rfl⟩
      have X1 : Hid (Ext W0 W1) := by rw [hW1.out]; exact HX.out.trans (Ext.alloc _ _)
      have R1 := hide (r1.ext (show Ext wr W1 by rw [hW1.out]; exact Ext.alloc _ _) (by omega))
      have b1 := r1.1; have b2 := r1.2.1
      clear r1 r2 k2
      have hKI : ∀ (y : ItD), knownI d.1 y = y.1.all (fun nm => decide (0 ≤ findF d.1 nm)) := fun _ => rfl
      have HKI := hide (hKI x)
      clear hKI
      obtain ⟨m, hm⟩ : ∃ m, Hid (x.1.length = m) := ⟨_, rfl⟩
      rw [hm.out] at q0 hW1 k1 b1
      generalize x.2.1.length = m2 at *
      generalize x.2.2 = m3 at *
      go_wp2
      rw [← hW1.out]
      clear hW1 q0 q1 q2
      go_loopw [18] (fun i wr => ∃ (j : Nat), j ≤ m ∧ i = .int .i64 j ∧ (x.1.take j).all (fun nm => decide (0 ≤ findF d.1 nm)) = true ∧ Ext W1 wr) (fun i _ => m - (intOf i).toNat)
      case atStart => exact ⟨0, Nat.zero_le _, rfl, rfl, Ext.refl _⟩
      case round =>
        obtain ⟨j, hj, rfl, hall, hx⟩ := hrel
        have HA2 := hide hall
        have HX2 := hide hx
        clear hall hx
        by_cases hltj : j < m
        · obtain ⟨nm, hnj⟩ : ∃ nm, Hid (x.1[j]? = some nm) := ⟨_, List.getElem?_eq_getElem (by rw [hm.out]; exact hltj)⟩
          obtain ⟨b9, off9, rfl, hb9, u0, ul⟩ := (R1.out.ext HX2.out (by have := X1.out.size; have := X0.out.size; omega)).str j nm hnj.out
          have XX := hide (X1.out.trans HX2.out)
          have cB := (B0.out.ext XX.out).cell
          have FE := hide (i.findElement_m wr _ d nm (kC.rd_ext HR.out (X0.out.trans XX.out)) hok)
          obtain ⟨F, hF⟩ : ∃ F, Hid (findF d.1 nm = F) := ⟨_, rfl⟩
          rw [hF.out] at FE
          generalize bs nm = nb at *
          go_wp2_with fail
          refine FE.out.mono ?_
          rintro e w2 ⟨rfl, x2⟩
          have HX3 := hide (HX2.out.trans x2)
          clear x2 cB u0 FE
          by_cases hneg : F < 0
          · have HF : Hid (R = false) := by
              show _ = _
              rw [← hR.out]
              exact allL_stop hxk.out (by rw [HKI.out]; exact allL_stop hnj.out (by rw [hF.out]; simp; omega))
            go_wp2
            go_ret
            exact ⟨ret_bool HF.out.symm, X0.out.trans (X1.out.trans HX3.out)⟩
          · have HN : Hid (decide (0 ≤ findF d.1 nm) = true) := by show _ = _; rw [hF.out]; simp; omega
            go_wp2
            go_roundw
            case rel => exact ⟨j + 1, by omega, by go_num, allL_step hnj.out HA2.out HN.out, HX3.out⟩
            case measure => simp [intOf]; omega
        · have HN : Hid (knownI d.1 x = true) := by show _ = _; rw [HKI.out]; exact allL_end (by rw [hm.out]; omega) HA2.out
          go_wp2
          go_roundw
          case rel => exact ⟨k + 1, by omega, by go_num, allL_step hxk.out HA.out HN.out, X1.out.trans HX2.out⟩
          case measure => simp [intOf]; omega
    · have HF : Hid (R = true) := by show _ = _; rw [← hR.out]; exact allL_end (by rw [hn.out]; omega) HA.out
      go_wp2
      go_ret
      exact ⟨ret_bool HF.out.symm, X0.out.trans HX.out⟩

set_option maxRecDepth 100000 in
set_option maxHeartbeats 1000000 in
theorem s.bsKnows_m (w : World) (v : Value) (d : CoD) (A : Option Addr) (c B : Nat) (xs : List ItD) (h : kC.rd w v d) (hok : kC.ok d) (hi : LR kdItem w B A c xs) (hB : B ≤ w.heap.size) (hlen : xs.length ≤ 1048576) (hwt : ∀ (k : Nat) (x : ItD), xs[k]? = some x → kdItem.wt x ≤ 1048576) :
    Calls Tryz.prog 98 #[v, .slice A xs.length c] w fun e w' => e = .returned (.bool (knownB d.1 xs)) ∧ Ext w w' := by
  obtain ⟨Ac, nc, cc, Al, nl, cl, r, b, p, f, rfl⟩ := kC.shape h
  have HR := hide h
  have H := hide hi
  have HW := hide hwt
  have a1 := hi.1; have a2 := hi.2.1
  clear h hi hwt
  obtain ⟨R, hR⟩ : ∃ R, Hid (knownB d.1 xs = R) := ⟨_, rfl⟩
  rw [hR.out]
  obtain ⟨n, hn⟩ : ∃ n, Hid (xs.length = n) := ⟨_, rfl⟩
  rw [hn.out] at hlen a1 ⊢
  have n1 : n ≤ 1048576 := hlen
  clear hlen
  obtain ⟨W0, hW0⟩ : ∃ W0, Hid (W0 = w.alloc (.cells #[.slice Ac nc cc, .slice Al nl cl, .int .i64 r, .int .i64 b, .int .i64 p, .int .i64 f] 26)) := ⟨_, rfl⟩
  have X0 : Hid (Ext w W0) := by rw [hW0.out]; exact Ext.alloc w _
  have B0 : Hid (Blk W0 w.heap.size #[.slice Ac nc cc, .slice Al nl cl, .int .i64 r, .int .i64 b, .int .i64 p, .int .i64 f] 26) := by rw [hW0.out]; exact Blk.new rfl _ _
  go_enter Tryz.func98, Tryz.ntmps98
  go_wp2
  rw [← hW0.out]
  clear hW0
  go_loopw [11] (fun i wr => ∃ (k : Nat), k ≤ n ∧ i = .int .i64 k ∧ (xs.take k).all (knownI d.1) = true ∧ Ext W0 wr) (fun i _ => n - (intOf i).toNat)
  case atStart => exact ⟨0, Nat.zero_le _, rfl, rfl, Ext.refl _⟩
  case round =>
    obtain ⟨k, hk, rfl, hall, hx⟩ := hrel
    have HA := hide hall
    have HX := hide hx
    clear hall hx
    by_cases hlt : k < n
    · obtain ⟨x, hxk⟩ : ∃ x, Hid (xs[k]? = some x) := ⟨_, List.getElem?_eq_getElem (by rw [hn.out]; exact hlt)⟩
      have XW := hide (X0.out.trans HX.out)
      obtain ⟨bb, off, A1, c1, A2, c2, rfl, hb, q0, q1, q2, r1, r2⟩ := (H.out.ext XW.out hB).item k x hxk.out
      obtain ⟨k1, k2, _⟩ := kdItem.wt_le (HW.out k x hxk.out)
      have sz := XW.out.size
      obtain ⟨W1, hW1⟩ : ∃ W1, Hid (W1 = wr.alloc (.cells #[.slice A1 x.1.length c1, .slice A2 x.2.1.length c2, .bool x.2.2] 47)) := ⟨_, rfl⟩
      have X1 : Hid (Ext W0 W1) := by rw [hW1.out]; exact HX.out.trans (Ext.alloc _ _)
      have R1 := hide (r1.ext (show Ext wr W1 by rw [hW1.out]; exact Ext.alloc _ _) (by omega))
      have b1 := r1.1; have b2 := r1.2.1
      clear r1 r2 k2
      have hKI : ∀ (y : ItD), knownI d.1 y = y.1.all (fun nm => decide (0 ≤ findF d.1 nm)) := fun _ => rfl
      have HKI := hide (hKI x)
      clear hKI
      obtain ⟨m, hm⟩ : ∃ m, Hid (x.1.length = m) := ⟨_, rfl⟩
      rw [hm.out] at q0 hW1 k1 b1
      generalize x.2.1.length = m2 at *
      generalize x.2.2 = m3 at *
      go_wp2
      rw [← hW1.out]
      clear hW1 q0 q1 q2
      go_loopw [18] (fun i wr => ∃ (j : Nat), j ≤ m ∧ i = .int .i64 j ∧ (x.1.take j).all (fun nm => decide (0 ≤ findF d.1 nm)) = true ∧ Ext W1 wr) (fun i _ => m - (intOf i).toNat)
      case atStart => exact ⟨0, Nat.zero_le _, rfl, rfl, Ext.refl _⟩
      case round =>
        obtain ⟨j, hj, rfl, hall, hx⟩ := hrel
        have HA2 := hide hall
        have HX2 := hide hx
        clear hall hx
        by_cases hltj : j < m
        · obtain ⟨nm, hnj⟩ : ∃ nm, Hid (x.1[j]? = some nm) := ⟨_, List.getElem?_eq_getElem (by rw [hm.out]; exact hltj)⟩
          obtain ⟨b9, off9, rfl, hb9, u0, ul⟩ := (R1.out.ext HX2.out (by have := X1.out.size; have := X0.out.size; omega)).str j nm hnj.out
          have XX := hide (X1.out.trans HX2.out)
          have cB := (B0.out.ext XX.out).cell
          have FE := hide (s.cdFind_m wr _ d nm (kC.rd_ext HR.out (X0.out.trans XX.out)) hok)
          obtain ⟨F, hF⟩ : ∃ F, Hid (findF d.1 nm = F) := ⟨_, rfl⟩
          rw [hF.out] at FE
          generalize bs nm = nb at *
          go_wp2_with fail
          refine FE.out.mono ?_
          rintro e w2 ⟨rfl, x2⟩
          have HX3 := hide (HX2.out.trans x2)
          clear x2 cB u0 FE
          by_cases hneg : F < 0
          · have HF : Hid (R = false) := by
              show _ = _
              rw [← hR.out]
              exact allL_stop hxk.out (by rw [HKI.out]; exact allL_stop hnj.out (by rw [hF.out]; simp; omega))
            go_wp2
            go_ret
            exact ⟨ret_bool HF.out.symm, X0.out.trans (X1.out.trans HX3.out)⟩
          · have HN : Hid (decide (0 ≤ findF d.1 nm) = true) := by show _ = _; rw [hF.out]; simp; omega
            go_wp2
            go_roundw
            case rel => exact ⟨j + 1, by omega, by go_num, allL_step hnj.out HA2.out HN.out, HX3.out⟩
            case measure => simp [intOf]; omega
        · have HN : Hid (knownI d.1 x = true) := by show _ = _; rw [HKI.out]; exact allL_end (by rw [hm.out]; omega) HA2.out
          go_wp2
          go_roundw
          case rel => exact ⟨k + 1, by omega, by go_num, allL_step hxk.out HA.out HN.out, X1.out.trans HX2.out⟩
          case measure => simp [intOf]; omega
    · have HF : Hid (R = true) := by show _ = _; rw [← hR.out]; exact allL_end (by rw [hn.out]; omega) HA.out
      go_wp2
      go_ret
      exact ⟨ret_bool HF.out.symm, X0.out.trans HX.out⟩

/-! ### Worths -/
def worthE (kp : Int) (x : ElD) (mark : Int) : Int := if mark = 1 then x.2.2.2 * kp / 100 else if mark = 2 then x.2.2.2 * 9 / 10 else if mark = 3 then 0 else x.2.2.2
def worthN (d : CoD) (nm : List UInt8) (mark : Int) : Int := worthE d.2.2.2.2.1 (d.1.getD (findF d.1 nm).toNat noEl) mark
theorem worthE_bd {kp : Int} {x : ElD} (mark : Int) (hk : 0 ≤ kp ∧ kp ≤ 100) (hx : 0 ≤ x.2.2.2 ∧ x.2.2.2 ≤ 2000) : 0 ≤ worthE kp x mark ∧ worthE kp x mark ≤ 2000 := by
  unfold worthE
  have h0 : 0 ≤ x.2.2.2 * kp := Int.mul_nonneg hx.1 hk.1
  have h1 : x.2.2.2 * kp ≤ x.2.2.2 * 100 := Int.mul_le_mul_of_nonneg_left hk.2 hx.1
  split
  · constructor
    · exact Int.ediv_nonneg h0 (by decide)
    · omega
  · split
    · omega
    · split <;> omega
theorem worthN_bd {d : CoD} (hd : CodeOk d) (nm : List UInt8) (mark : Int) : 0 ≤ worthN d nm mark ∧ worthN d nm mark ≤ 2000 := by
  refine worthE_bd mark ⟨by have := hd.kep; omega, hd.kep.2⟩ ?_
  cases hx : d.1[(findF d.1 nm).toNat]? with
  | none => rw [List.getD_eq_getElem?_getD, hx]; exact ⟨by decide, by decide⟩
  | some x => rw [getD_some hx]; have := elB_ok (hd.els _ _ hx); omega

set_option maxRecDepth 100000 in
set_option maxHeartbeats 1000000 in
theorem i.worthOf_m (w : World) (v : Value) (d : CoD) (x : ElD) (mark : Int) (h : kC.rd w v d) (hd : CodeOk d) (hx : elB x = true) :
    Calls Tryz.prog 124 #[v, .agg #[.string (bs x.1), .int .i64 x.2.1, .int .i64 x.2.2.1, .int .i64 x.2.2.2], .int .i64 mark] w fun e w' => e = .returned (.int .i64 (worthE d.2.2.2.2.1 x mark)) ∧ Ext w w' := by
  obtain ⟨A, c, A', c', rfl, h1, h2⟩ := kC.lr h
  have hb := elB_ok hx
  have hk := hd.kep
  clear h h1 h2 hx
  have e0 : ∀ m, worthE d.2.2.2.2.1 x m = if m = 1 then x.2.2.2 * d.2.2.2.2.1 / 100 else if m = 2 then x.2.2.2 * 9 / 10 else if m = 3 then 0 else x.2.2.2 := fun _ => rfl
  have E0 := hide (e0 mark)
  clear e0
  generalize worthE d.2.2.2.2.1 x mark = R at *
  generalize d.1.length = n at *
  generalize d.2.1.length = n' at *
  generalize d.2.2.1 = r at *
  generalize d.2.2.2.1 = b at *
  generalize d.2.2.2.2.2 = f at *
  generalize d.2.2.2.2.1 = kp at *
  generalize bs x.1 = sb at *
  generalize x.2.1 = y1 at *
  generalize x.2.2.1 = y2 at *
  generalize x.2.2.2 = y at *
  have h0 : 0 ≤ y * kp := Int.mul_nonneg (by omega) (by omega)
  have h1 : y * kp ≤ y * 100 := Int.mul_le_mul_of_nonneg_left (by omega) (by omega)
  have h2 : y * kp ≤ 200000 := by omega
  have X0 := hide ((Ext.alloc w (.cells #[.slice A n c, .slice A' n' c', .int .i64 r, .int .i64 b, .int .i64 kp, .int .i64 f] 26)).trans (Ext.alloc _ (.cells #[.string sb, .int .i64 y1, .int .i64 y2, .int .i64 y] 84)))
  clear h1
  by_cases m1 : mark = 1
  · have HF : Hid (R = y * kp / 100) := by show _ = _; rw [E0.out, if_pos m1]
    subst m1
    clear E0
    go_enter Tryz.func124, Tryz.ntmps124
    go_wp2
    go_ret
    exact ⟨ret_int HF.out.symm, X0.out⟩
  have b1 : (mark == 1) = false := by simp [m1]
  by_cases m2 : mark = 2
  · have HF : Hid (R = y * 9 / 10) := by show _ = _; rw [E0.out, if_neg m1, if_pos m2]
    subst m2
    clear E0 b1 m1
    go_enter Tryz.func124, Tryz.ntmps124
    go_wp2
    go_ret
    exact ⟨ret_int HF.out.symm, X0.out⟩
  have b2 : (mark == 2) = false := by simp [m2]
  by_cases m3 : mark = 3
  · have HF : Hid (R = 0) := by show _ = _; rw [E0.out, if_neg m1, if_neg m2, if_pos m3]
    subst m3
    clear E0 b1 m1 b2 m2
    go_enter Tryz.func124, Tryz.ntmps124
    go_wp2
    go_ret
    exact ⟨ret_int HF.out.symm, X0.out⟩
  have b3 : (mark == 3) = false := by simp [m3]
  have HF : Hid (R = y) := by show _ = _; rw [E0.out, if_neg m1, if_neg m2, if_neg m3]
  clear E0 m1 m2 m3
  go_enter Tryz.func124, Tryz.ntmps124
  go_wp2
  go_ret
  exact ⟨ret_int HF.out.symm, X0.out⟩

set_option maxRecDepth 100000 in
set_option maxHeartbeats 1000000 in
theorem s.bsWorth_m (w : World) (v : Value) (d : CoD) (nm : List UInt8) (mark : Int) (h : kC.rd w v d) (hok : kC.ok d) (hd : CodeOk d) (hf : 0 ≤ findF d.1 nm) :
    Calls Tryz.prog 99 #[v, .string (bs nm), .int .i64 mark] w fun e w' => e = .returned (.int .i64 (worthN d nm mark)) ∧ Ext w w' := by
  obtain ⟨k, x, hfk, hxk, -⟩ := findF_some hf
  have e0 : worthN d nm mark = if mark = 1 then x.2.2.2 * d.2.2.2.2.1 / 100 else if mark = 2 then x.2.2.2 * 9 / 10 else if mark = 3 then 0 else x.2.2.2 := by
    unfold worthN
    rw [hfk, Int.toNat_natCast, getD_some hxk]
    rfl
  have E0 := hide e0
  have hb := elB_ok (hd.els _ _ hxk)
  have hk := hd.kep
  have FE := hide (fun (wq : World) (xq : Ext w wq) => s.cdFind_m wq v d nm (kC.rd_ext h xq) hok)
  rw [hfk] at FE
  obtain ⟨A, c, A', c', rfl, h1, h2⟩ := kC.lr h
  obtain ⟨bb, off, rfl, hbb, u0, u1, u2, u3, xl⟩ := h1.element k x hxk
  have kl : k < d.1.length := (List.getElem?_eq_some_iff.1 hxk).1
  have a1 := h1.1; have a2 := h1.2.1
  have kl2 := hd.n2
  clear h h1 h2 e0 hf hfk u0 u1 u2 hxk
  generalize worthN d nm mark = R at *
  generalize d.1.length = n at *
  generalize d.2.1.length = n' at *
  generalize d.2.2.1 = r at *
  generalize d.2.2.2.1 = b at *
  generalize d.2.2.2.2.2 = f at *
  generalize d.2.2.2.2.1 = kp at *
  generalize bs nm = sb at *
  generalize x.2.2.2 = y at *
  have h0 : 0 ≤ y * kp := Int.mul_nonneg (by omega) (by omega)
  have h1 : y * kp ≤ y * 100 := Int.mul_le_mul_of_nonneg_left (by omega) (by omega)
  have h2 : y * kp ≤ 200000 := by omega
  clear h1
  obtain ⟨W0, hW0⟩ : ∃ W0, Hid (W0 = w.alloc (.cells #[.slice (some ⟨bb, off, none⟩) n c, .slice A' n' c', .int .i64 r, .int .i64 b, .int .i64 kp, .int .i64 f] 26)) := ⟨_, rfl⟩
  have X0 : Hid (Ext w W0) := by rw [hW0.out]; exact Ext.alloc w _
  have B0 : Hid (Blk W0 w.heap.size #[.slice (some ⟨bb, off, none⟩) n c, .slice A' n' c', .int .i64 r, .int .i64 b, .int .i64 kp, .int .i64 f] 26) := by rw [hW0.out]; exact Blk.new rfl _ _
  have U3 := hide u3
  clear u3
  go_enter Tryz.func99, Tryz.ntmps99
  go_wp2_with fail
  rw [← hW0.out]
  clear hW0
  refine (FE.out W0 X0.out).mono ?_
  rintro e w1 ⟨rfl, x1⟩
  have X1 := hide (X0.out.trans x1)
  have cB := (B0.out.ext x1).cell
  have u3 : w1.cell? ⟨bb, off + k * 4 + 3, none⟩ = some (.int .i64 y) := (X1.out.cell hbb).trans U3.out
  clear x1 FE
  by_cases m1 : mark = 1
  · have HF : Hid (R = y * kp / 100) := by show _ = _; rw [E0.out, if_pos m1]
    subst m1
    clear E0
    go_wp2
    go_ret
    exact ⟨ret_int HF.out.symm, X1.out⟩
  have b1 : (mark == 1) = false := by simp [m1]
  by_cases m2 : mark = 2
  · have HF : Hid (R = y * 9 / 10) := by show _ = _; rw [E0.out, if_neg m1, if_pos m2]
    subst m2
    clear E0 b1 m1
    go_wp2
    go_ret
    exact ⟨ret_int HF.out.symm, X1.out⟩
  have b2 : (mark == 2) = false := by simp [m2]
  by_cases m3 : mark = 3
  · have HF : Hid (R = 0) := by show _ = _; rw [E0.out, if_neg m1, if_neg m2, if_pos m3]
    subst m3
    clear E0 b1 m1 b2 m2
    go_wp2
    go_ret
    exact ⟨ret_int HF.out.symm, X1.out⟩
  have b3 : (mark == 3) = false := by simp [m3]
  have HF : Hid (R = y) := by show _ = _; rw [E0.out, if_neg m1, if_neg m2, if_neg m3]
  clear E0 m1 m2 m3
  go_wp2
  go_ret
  exact ⟨ret_int HF.out.symm, X1.out⟩
end Go.Proofs.YtaoeomgehpdedaaGreat

/- Worths of an item, its full base, its unit. -/
namespace Go.Proofs.YtaoeomgehpdedaaGreat
open Go.RowKit Go.Sort
set_option linter.unusedVariables false

def worthAt (d : CoD) (x : ItD) (i : Nat) : Int := worthN d (x.1.getD i []) (x.2.1.getD i 0)
def worthsN (d : CoD) (x : ItD) (k : Nat) : List Int := (List.range k).map (worthAt d x)
def worthsF (d : CoD) (x : ItD) : List Int := worthsN d x x.1.length
theorem worthsN_succ (d : CoD) (x : ItD) (k : Nat) : worthsN d x (k + 1) = worthsN d x k ++ [worthAt d x k] := by simp [worthsN, List.range_succ]
theorem worthsN_len (d : CoD) (x : ItD) (k : Nat) : (worthsN d x k).length = k := by simp [worthsN]
theorem worthsN_bd {d : CoD} (hd : CodeOk d) (x : ItD) (k : Nat) : ∀ z ∈ worthsN d x k, 0 ≤ z ∧ z ≤ 2000 := by
  intro z hz
  obtain ⟨i, _, rfl⟩ := List.mem_map.1 hz
  exact worthN_bd hd _ _
theorem sum_bd2 (zs : List Int) (h : ∀ z ∈ zs, 0 ≤ z ∧ z ≤ 2000) : 0 ≤ zs.sum ∧ zs.sum ≤ 2000 * (zs.length : Int) := by
  induction zs with
  | nil => simp
  | cons z t ih =>
    have h1 := h z (by simp)
    have h2 := ih (fun y hy => h y (by simp [hy]))
    rw [List.sum_cons, List.length_cons]
    omega
theorem sumW_bd {d : CoD} (hd : CodeOk d) (x : ItD) (k : Nat) : 0 ≤ (worthsN d x k).sum ∧ (worthsN d x k).sum ≤ 2000 * k := by
  have := sum_bd2 _ (worthsN_bd hd x k)
  rwa [worthsN_len] at this
def roundI (a b : Int) : Int := (2 * a + b) / (2 * b)
def fullF (d : CoD) (x : ItD) : Int := if x.2.2 then roundI ((worthsF d x).sum * (100 + d.2.2.2.1)) 100 else (worthsF d x).sum
def unitN (d : CoD) (x : ItD) (k : Nat) : Int := (worthsN d x k).foldl max 0
def unitF (d : CoD) (x : ItD) : Int := unitN d x x.1.length
theorem unitN_succ (d : CoD) (x : ItD) (k : Nat) : unitN d x (k + 1) = max (unitN d x k) (worthAt d x k) := by
  unfold unitN; rw [worthsN_succ, List.foldl_append]; rfl
theorem foldl_max_bd (zs : List Int) (a : Int) (h : ∀ z ∈ zs, 0 ≤ z ∧ z ≤ 2000) (ha : 0 ≤ a ∧ a ≤ 2000) : 0 ≤ zs.foldl max a ∧ zs.foldl max a ≤ 2000 := by
  induction zs generalizing a with
  | nil => exact ha
  | cons z t ih => exact ih _ (fun y hy => h y (by simp [hy])) (by have := h z (by simp); omega)
theorem unitN_bd {d : CoD} (hd : CodeOk d) (x : ItD) (k : Nat) : 0 ≤ unitN d x k ∧ unitN d x k ≤ 2000 := foldl_max_bd _ _ (worthsN_bd hd x k) (by omega)
theorem maxL_unit {d : CoD} (hd : CodeOk d) (x : ItD) : maxL (worthsF d x) = unitF d x := by
  unfold maxL unitF unitN worthsF
  have h := worthsN_bd hd x x.1.length
  cases hw : worthsN d x x.1.length with
  | nil => rfl
  | cons z t =>
    rw [hw] at h
    have h0 := h z (by simp)
    simp only [List.headD_cons, List.foldl_cons]
    congr 1
    omega
theorem fullF_bd {d : CoD} (hd : CodeOk d) (x : ItD) (h3 : x.1.length ≤ 3) : 0 ≤ fullF d x ∧ fullF d x ≤ 10000 := by
  have hs := sumW_bd hd x x.1.length
  have hb := hd.bon
  unfold fullF worthsF
  generalize (worthsN d x x.1.length).sum = s at *
  have h0 : 0 ≤ s * (100 + d.2.2.2.1) := Int.mul_nonneg hs.1 (by omega)
  have h1 : s * (100 + d.2.2.2.1) ≤ s * 120 := Int.mul_le_mul_of_nonneg_left (by omega) hs.1
  split
  · unfold roundI; omega
  · omega
/-- What an item must be for its worths to be read. -/
structure ItOk (d : CoD) (x : ItD) : Prop where
  n1 : 1 ≤ x.1.length
  n3 : x.1.length ≤ 3
  ml : x.2.1.length = x.1.length
  kn : ∀ (i : Nat) (nm : List UInt8), x.1[i]? = some nm → 0 ≤ findF d.1 nm
theorem itOk {d : CoD} {x : ItD} (h : itemB x = true) (h1 : knownI d.1 x = true) : ItOk d x := by
  obtain ⟨a, b, c⟩ := itemB_ok h
  refine ⟨a, b, c, fun i nm hi => ?_⟩
  simp only [knownI, List.all_eq_true, decide_eq_true_eq] at h1
  exact h1 nm (List.mem_of_getElem? hi)
theorem worthAt_some {d : CoD} {x : ItD} {i : Nat} {nm : List UInt8} {mk : Int} (h : x.1[i]? = some nm) (h' : x.2.1[i]? = some mk) : worthAt d x i = worthN d nm mk := by
  unfold worthAt; rw [getD_some h, getD_some h']
theorem LR.intAt {w : World} {B c : Nat} {A : Option Addr} {zs : List Int} (h : LR kdInt w B A c zs) (k : Nat) (z : Int) (hz : zs[k]? = some z) : ∃ b off, A = some ⟨b, off, none⟩ ∧ b < B ∧ w.cell? ⟨b, off + k, none⟩ = some (.int .i64 z) := by
  obtain ⟨b, off, cs, rfl, hb, rfl, hc⟩ := h.2.2 k z hz
  refine ⟨b, off, rfl, hb, ?_⟩
  have := hc 0 _ rfl
  rwa [show k * kdInt.size + 0 = k from by show k * 1 + 0 = k; omega] at this


set_option maxRecDepth 100000 in
set_option maxHeartbeats 4000000 in
theorem i.worths_m (w : World) (v : Value) (d : CoD) (vs : List Value) (x : ItD) (h : kC.rd w v d) (hok : kC.ok d) (hd : CodeOk d) (hx : kdItem.rd w w.heap.size vs x) (hi : ItOk d x) :
    Calls Tryz.prog 97 #[v, kdItem.val vs] w fun e w' => ∃ A' c', e = .returned (.slice A' x.1.length c') ∧ OwnI 3 w' w.heap.size A' x.1.length c' (worthsF d x) ∧ Ext w w' := by
  obtain ⟨Ac, cc, Al, cl, rfl, hle, _⟩ := kC.lr h
  have HR := hide h
  have HLE := hide hle
  obtain ⟨nc, NC⟩ : ∃ z, Hid (d.1.length = z) := ⟨_, rfl⟩
  obtain ⟨nl, NL⟩ : ∃ z, Hid (d.2.1.length = z) := ⟨_, rfl⟩
  obtain ⟨r, RN⟩ : ∃ z, Hid (d.2.2.1 = z) := ⟨_, rfl⟩
  obtain ⟨b, BN⟩ : ∃ z, Hid (d.2.2.2.1 = z) := ⟨_, rfl⟩
  obtain ⟨p, PN⟩ : ∃ z, Hid (d.2.2.2.2.1 = z) := ⟨_, rfl⟩
  obtain ⟨f, FN⟩ : ∃ z, Hid (d.2.2.2.2.2 = z) := ⟨_, rfl⟩
  rw [NC.out, NL.out, RN.out, BN.out, PN.out, FN.out] at HR ⊢
  clear hle
  obtain ⟨A1, c1, A2, c2, rfl, h1, h2⟩ := kdItem.open_ hx
  rw [kdItem.val3]
  have H1 := hide h1
  have H2 := hide h2
  have a1 := h1.1; have a2 := h1.2.1; have a3 := h2.1; have a4 := h2.2.1
  have i1 := hi.n1; have i3 := hi.n3
  have ML := hide hi.ml
  have HI := hide hi
  have HD := hide hd
  clear h hx h1 h2 hi hd
  rw [ML.out] at a3 ⊢
  obtain ⟨m, hm⟩ : ∃ m, Hid (x.1.length = m) := ⟨_, rfl⟩
  rw [hm.out] at a1 a3 i1 i3 ⊢
  obtain ⟨q, hq⟩ : ∃ q, Hid (x.2.2 = q) := ⟨_, rfl⟩
  rw [hq.out]
  obtain ⟨W0, hW0⟩ : ∃ W0, Hid (W0 = (w.alloc (.cells #[.slice Ac nc cc, .slice Al nl cl, .int .i64 r, .int .i64 b, .int .i64 p, .int .i64 f] 26)).alloc (.cells #[.slice A1 m c1, .slice A2 m c2, .bool q] 47)) := ⟨_, rfl⟩
  have X0 : Hid (Ext w W0) := by rw [hW0.out]; exact (Ext.alloc w _).trans (Ext.alloc _ _)
  have B0 : Hid (Blk W0 w.heap.size #[.slice Ac nc cc, .slice Al nl cl, .int .i64 r, .int .i64 b, .int .i64 p, .int .i64 f] 26) := by rw [hW0.out]; exact (Blk.new rfl _ _).alloc _
  have B1 : Hid (Blk W0 (w.heap.size + 1) #[.slice A1 m c1, .slice A2 m c2, .bool q] 47) := by rw [hW0.out]; exact Blk.new (by simp) _ _
  have zW := X0.out.size
  have zz : W0.heap.size = w.heap.size + 1 + 1 := by rw [hW0.out]; simp
  have O9 : Hid (OwnI 3 (W0.alloc (.cells #[] 3)) W0.heap.size (some ⟨w.heap.size + 1 + 1, 0, none⟩) 0 0 (worthsN d x 0)) := Own.emptyAt zz 3 (by omega)
  have cIa : (W0.alloc (.cells #[] 3)).cell? ⟨w.heap.size + 1, 0, none⟩ = some (.slice A1 m c1) := ((Ext.alloc W0 _).cell (show w.heap.size + 1 < W0.heap.size from B1.out.lt)).trans (B1.out.cell 0)
  have WF : Hid (worthsF d x = worthsN d x m) := by show _ = _; rw [← hm.out]; rfl
  rw [WF.out]
  have ZZ := hide zz
  clear zz
  rw [hW0.out] at cIa
  go_enter Tryz.func97, Tryz.ntmps97
  go_wp2
  rw [← hW0.out]
  clear hW0 cIa
  go_loopw [5, 12] (fun o i wr => ∃ (k : Nat) (A' : Option Addr) (c' : Nat), k ≤ m ∧ i = .int .i64 k ∧ o = .slice A' k c' ∧ OwnI 3 wr W0.heap.size A' k c' (worthsN d x k) ∧ Ext W0 wr) (fun _ i _ => m - (intOf i).toNat)
  case atStart => exact ⟨0, _, _, Nat.zero_le _, rfl, rfl, O9.out, Ext.alloc W0 _⟩
  case round =>
    obtain ⟨k, A', c', hk, rfl, rfl, hown, hx⟩ := hrel
    have HO := hide hown
    have HX := hide hx
    have oc1 := hown.capn; have oc2 := hown.capm
    clear hown hx
    by_cases hlt : k < m
    · obtain ⟨nm, hnk⟩ : ∃ nm, Hid (x.1[k]? = some nm) := ⟨_, List.getElem?_eq_getElem (by rw [hm.out]; exact hlt)⟩
      obtain ⟨mk, hmk⟩ : ∃ mk, Hid (x.2.1[k]? = some mk) := ⟨_, List.getElem?_eq_getElem (by rw [ML.out, hm.out]; exact hlt)⟩
      have XW := hide (X0.out.trans HX.out)
      obtain ⟨bn, on, rfl, hbn, u0, ul⟩ := (H1.out.ext XW.out (Nat.le_refl _)).str k nm hnk.out
      obtain ⟨bm, om, rfl, hbm, u1⟩ := (H2.out.ext XW.out (Nat.le_refl _)).intAt k mk hmk.out
      have sz := XW.out.size
      have WA : Hid (worthAt d x k = worthN d nm mk) := worthAt_some hnk.out hmk.out
      have FI := HI.out.kn k nm hnk.out
      obtain ⟨e9, y, hF, hyk, -⟩ := findF_some FI
      have HF := hide hF
      have WE : Hid (worthAt d x k = worthE d.2.2.2.2.1 y mk) := by
        show _ = _
        rw [WA.out]; unfold worthN; rw [hF, Int.toNat_natCast, getD_some hyk]
      have hle := HLE.out
      have hnc := NC.out.symm
      have e9n : e9 < nc := by rw [hnc]; exact (List.getElem?_eq_some_iff.1 hyk).1
      have n24 : nc ≤ 24 := by rw [hnc]; exact HD.out.n2
      have ccn : nc ≤ cc := by rw [hnc]; exact hle.1
      have ccm := hle.2.1
      obtain ⟨be, oe, rfl, hbe, v0, v1, v2, v3, _⟩ := hle.element e9 y hyk
      have FE := hide (fun (wq : World) (xq : Ext W0 wq) => i.findElement_m wq _ d nm (kC.rd_ext HR.out (X0.out.trans xq)) hok)
      rw [hF] at FE
      have WO := hide (fun (wq : World) (xq : Ext W0 wq) => i.worthOf_m wq _ d y mk (kC.rd_ext HR.out (X0.out.trans xq)) HD.out (HD.out.els _ _ hyk))
      rw [← WE.out] at WO
      have zl : w.heap.size + 1 < W0.heap.size := B1.out.lt
      have SF : Hid (∀ w', Ext W0 w' → (∀ i, w'.cell? ⟨w.heap.size, i, none⟩ = #[Value.slice (some ⟨be, oe, none⟩) nc cc, .slice Al nl cl, .int .i64 r, .int .i64 b, .int .i64 p, .int .i64 f][i]?) ∧ (∀ i, w'.cell? ⟨w.heap.size + 1, i, none⟩ = #[Value.slice (some ⟨bn, on, none⟩) m c1, .slice (some ⟨bm, om, none⟩) m c2, .bool q][i]?) ∧ w'.cell? ⟨be, oe + e9 * 4, none⟩ = some (.string (bs y.1)) ∧ w'.cell? ⟨be, oe + e9 * 4 + 1, none⟩ = some (.int .i64 y.2.1) ∧ w'.cell? ⟨be, oe + e9 * 4 + 2, none⟩ = some (.int .i64 y.2.2.1) ∧ w'.cell? ⟨be, oe + e9 * 4 + 3, none⟩ = some (.int .i64 y.2.2.2) ∧ w'.cell? ⟨bm, om + k, none⟩ = some (.int .i64 mk)) := by
        intro w' xq
        have xx := X0.out.trans xq
        obtain ⟨_, _, hh, _, hmc⟩ := (H2.out.ext xx (Nat.le_refl _)).intAt k mk hmk.out
        simp only [Option.some.injEq, Addr.mk.injEq, and_true] at hh
        obtain ⟨rfl, rfl⟩ := hh
        exact ⟨(B0.out.ext xq).cell, (B1.out.ext xq).cell, (xx.cell hbe).trans v0, (xx.cell hbe).trans v1, (xx.cell hbe).trans v2, (xx.cell hbe).trans v3, hmc⟩
      have kI : (e9 : Int) < nc := by omega
      have b1 : (k + 1) * 8 ≤ 140737488355328 := by omega
      have b2 : k + 1 ≤ 4611686018427387904 := by omega
      have TK := hide (worthsN_succ d x k)
      clear v0 v1 v2 v3 u1 hle hyk hF WA FI hnc
      generalize worthAt d x k = Z at *
      have cN := u0
      go_wp2
      clear cN u0
      obtain ⟨c0_, c1_, s2_, s3_, s4_, s5_, s6_⟩ := SF.out wr HX.out
      go_region_held3 (fun w' => (∀ i, w'.cell? ⟨w.heap.size, i, none⟩ = #[Value.slice (some ⟨be, oe, none⟩) nc cc, .slice Al nl cl, .int .i64 r, .int .i64 b, .int .i64 p, .int .i64 f][i]?) ∧ (∀ i, w'.cell? ⟨w.heap.size + 1, i, none⟩ = #[Value.slice (some ⟨bn, on, none⟩) m c1, .slice (some ⟨bm, om, none⟩) m c2, .bool q][i]?) ∧ w'.cell? ⟨be, oe + e9 * 4, none⟩ = some (.string (bs y.1)) ∧ w'.cell? ⟨be, oe + e9 * 4 + 1, none⟩ = some (.int .i64 y.2.1) ∧ w'.cell? ⟨be, oe + e9 * 4 + 2, none⟩ = some (.int .i64 y.2.2.1) ∧ w'.cell? ⟨be, oe + e9 * 4 + 3, none⟩ = some (.int .i64 y.2.2.2) ∧ w'.cell? ⟨bm, om + k, none⟩ = some (.int .i64 mk))
        (first | exact SF.out _ Y9.out | exact SF.out _ (Y3.out.trans (Ext.alloc w3 _)) | exact SF.out _ Y3.out | exact SF.out _ Y2.out | exact SF.out _ (HX.out.trans (Ext.drew wr)))
        (first
        | (refine step_append_sl (by rfl) (.tmp 17) (.tmp 32) (by rfl) elem_int (by rfl) (by rfl) (lo := W0.heap.size) (Own.alloc O3.out (.cells #[.int .i64 Z] 3)) (Sl.one w3 (.int .i64 Z) 3) (one_int _) b1 b2 (by have := Y3.out.size; simp; omega) ?_; intro A9 c9 w9 hap; have Y9 := hide (hap.ext (Y3.out.trans (Ext.alloc w3 _)) O3.out.fromLo); have HAP := hide hap; clear hap)
        | (go_at_call 124; refine (WO.out w2 Y2.out).mono ?_; rintro e w3 ⟨rfl, x3⟩; have Y3 := hide (Y2.out.trans x3); have O3 : Hid (OwnI 3 w3 W0.heap.size A' k c' (worthsN d x k)) := O2.out.below x3 (Nat.le_refl _); clear x3)
        | (go_at_call 104; refine (FE.out wr.drew (HX.out.trans (Ext.drew wr))).mono ?_; rintro e w2 ⟨rfl, x2⟩; have Y2 := hide ((HX.out.trans (Ext.drew wr)).trans x2); have O2 : Hid (OwnI 3 w2 W0.heap.size A' k c' (worthsN d x k)) := HO.out.below ((Ext.drew wr).trans x2) (Nat.le_refl _); clear x2))
      go_wp2
      go_roundw
      case rel => exact ⟨k + 1, A9, c9, by omega, by go_num, rfl, own_conv HAP.out.own (Nat.le_refl _) rfl (by rw [TK.out, List.map_append]; rfl), Y9.out⟩
      case measure => simp [intOf]; omega
    · have ek : m = k := by omega
      subst ek
      go_wp2
      go_ret
      exact ⟨A', c', rfl, HO.out.lower zW, X0.out.trans HX.out⟩

set_option maxRecDepth 100000 in
set_option maxHeartbeats 4000000 in
theorem s.elUnit_m (w : World) (v : Value) (d : CoD) (vs : List Value) (x : ItD) (h : kC.rd w v d) (hok : kC.ok d) (hd : CodeOk d) (hx : kdItem.rd w w.heap.size vs x) (hi : ItOk d x) :
    Calls Tryz.prog 59 #[v, kdItem.val vs] w fun e w' => e = .returned (.int .i64 (unitF d x)) ∧ Ext w w' := by
  obtain ⟨Ac, cc, Al, cl, rfl, hle, _⟩ := kC.lr h
  have HR := hide h
  have HLE := hide hle
  obtain ⟨nc, NC⟩ : ∃ z, Hid (d.1.length = z) := ⟨_, rfl⟩
  obtain ⟨nl, NL⟩ : ∃ z, Hid (d.2.1.length = z) := ⟨_, rfl⟩
  obtain ⟨r, RN⟩ : ∃ z, Hid (d.2.2.1 = z) := ⟨_, rfl⟩
  obtain ⟨b, BN⟩ : ∃ z, Hid (d.2.2.2.1 = z) := ⟨_, rfl⟩
  obtain ⟨p, PN⟩ : ∃ z, Hid (d.2.2.2.2.1 = z) := ⟨_, rfl⟩
  obtain ⟨f, FN⟩ : ∃ z, Hid (d.2.2.2.2.2 = z) := ⟨_, rfl⟩
  rw [NC.out, NL.out, RN.out, BN.out, PN.out, FN.out] at HR ⊢
  clear hle
  obtain ⟨A1, c1, A2, c2, rfl, h1, h2⟩ := kdItem.open_ hx
  rw [kdItem.val3]
  have H1 := hide h1
  have H2 := hide h2
  have a1 := h1.1; have a2 := h1.2.1; have a3 := h2.1; have a4 := h2.2.1
  have i1 := hi.n1; have i3 := hi.n3
  have ML := hide hi.ml
  have HI := hide hi
  have HD := hide hd
  clear h hx h1 h2 hi hd
  rw [ML.out] at a3 ⊢
  obtain ⟨m, hm⟩ : ∃ m, Hid (x.1.length = m) := ⟨_, rfl⟩
  rw [hm.out] at a1 a3 i1 i3 ⊢
  obtain ⟨q, hq⟩ : ∃ q, Hid (x.2.2 = q) := ⟨_, rfl⟩
  rw [hq.out]
  obtain ⟨W0, hW0⟩ : ∃ W0, Hid (W0 = (w.alloc (.cells #[.slice Ac nc cc, .slice Al nl cl, .int .i64 r, .int .i64 b, .int .i64 p, .int .i64 f] 26)).alloc (.cells #[.slice A1 m c1, .slice A2 m c2, .bool q] 47)) := ⟨_, rfl⟩
  have X0 : Hid (Ext w W0) := by rw [hW0.out]; exact (Ext.alloc w _).trans (Ext.alloc _ _)
  have B0 : Hid (Blk W0 w.heap.size #[.slice Ac nc cc, .slice Al nl cl, .int .i64 r, .int .i64 b, .int .i64 p, .int .i64 f] 26) := by rw [hW0.out]; exact (Blk.new rfl _ _).alloc _
  have B1 : Hid (Blk W0 (w.heap.size + 1) #[.slice A1 m c1, .slice A2 m c2, .bool q] 47) := by rw [hW0.out]; exact Blk.new (by simp) _ _
  have zW := X0.out.size
  have cIa := B1.out.cell
  rw [hW0.out] at cIa
  go_enter Tryz.func59, Tryz.ntmps59
  go_wp2
  rw [← hW0.out]
  clear hW0 cIa
  go_loopw [5, 11] (fun o i wr => ∃ (k : Nat), k ≤ m ∧ i = .int .i64 k ∧ o = .int .i64 (unitN d x k) ∧ Ext W0 wr) (fun _ i _ => m - (intOf i).toNat)
  case atStart => exact ⟨0, Nat.zero_le _, rfl, rfl, Ext.refl _⟩
  case round =>
    obtain ⟨k, hk, rfl, rfl, hx⟩ := hrel
    have HX := hide hx
    clear hx
    by_cases hlt : k < m
    · obtain ⟨nm, hnk⟩ : ∃ nm, Hid (x.1[k]? = some nm) := ⟨_, List.getElem?_eq_getElem (by rw [hm.out]; exact hlt)⟩
      obtain ⟨mk, hmk⟩ : ∃ mk, Hid (x.2.1[k]? = some mk) := ⟨_, List.getElem?_eq_getElem (by rw [ML.out, hm.out]; exact hlt)⟩
      have XW := hide (X0.out.trans HX.out)
      obtain ⟨bn, on, rfl, hbn, u0, ul⟩ := (H1.out.ext XW.out (Nat.le_refl _)).str k nm hnk.out
      obtain ⟨bm, om, rfl, hbm, u1⟩ := (H2.out.ext XW.out (Nat.le_refl _)).intAt k mk hmk.out
      have sz := XW.out.size
      have WA : Hid (worthAt d x k = worthN d nm mk) := worthAt_some hnk.out hmk.out
      have FI := HI.out.kn k nm hnk.out
      have FE := hide (fun (wq : World) (xq : Ext W0 wq) => s.bsWorth_m wq _ d nm mk (kC.rd_ext HR.out (X0.out.trans xq)) hok HD.out FI)
      rw [← WA.out] at FE
      have Zb := worthN_bd HD.out nm mk
      rw [← WA.out] at Zb
      have Sb := unitN_bd HD.out x k
      have SU := hide (unitN_succ d x k)
      have zl : w.heap.size + 1 < W0.heap.size := B1.out.lt
      have SF : Hid (∀ w', Ext W0 w' → (∀ i, w'.cell? ⟨w.heap.size, i, none⟩ = #[Value.slice Ac nc cc, .slice Al nl cl, .int .i64 r, .int .i64 b, .int .i64 p, .int .i64 f][i]?) ∧ (∀ i, w'.cell? ⟨w.heap.size + 1, i, none⟩ = #[Value.slice (some ⟨bn, on, none⟩) m c1, .slice (some ⟨bm, om, none⟩) m c2, .bool q][i]?) ∧ w'.cell? ⟨bm, om + k, none⟩ = some (.int .i64 mk)) := by
        intro w' xq
        have xx := X0.out.trans xq
        obtain ⟨_, _, hh, _, hmc⟩ := (H2.out.ext xx (Nat.le_refl _)).intAt k mk hmk.out
        simp only [Option.some.injEq, Addr.mk.injEq, and_true] at hh
        obtain ⟨rfl, rfl⟩ := hh
        exact ⟨(B0.out.ext xq).cell, (B1.out.ext xq).cell, hmc⟩
      clear u1 WA FI
      generalize worthAt d x k = Z at *
      generalize hs9 : unitN d x k = Sk at *
      clear hs9
      have cN := u0
      go_wp2
      clear cN u0
      obtain ⟨c0_, c1_, s2_⟩ := SF.out wr HX.out
      go_region_held3 (fun w' => (∀ i, w'.cell? ⟨w.heap.size, i, none⟩ = #[Value.slice Ac nc cc, .slice Al nl cl, .int .i64 r, .int .i64 b, .int .i64 p, .int .i64 f][i]?) ∧ (∀ i, w'.cell? ⟨w.heap.size + 1, i, none⟩ = #[Value.slice (some ⟨bn, on, none⟩) m c1, .slice (some ⟨bm, om, none⟩) m c2, .bool q][i]?) ∧ w'.cell? ⟨bm, om + k, none⟩ = some (.int .i64 mk))
        (first | exact SF.out _ Y2.out | exact SF.out _ (HX.out.trans (Ext.drew wr)))
        (first
        | (go_at_call 66; refine (s.l1Most_any _ _ _).mono ?_; rintro e w3 ⟨rfl, rfl⟩)
        | (go_at_call 99; refine (FE.out wr.drew (HX.out.trans (Ext.drew wr))).mono ?_; rintro e w2 ⟨rfl, x2⟩; have Y2 := hide ((HX.out.trans (Ext.drew wr)).trans x2); clear x2))
      clear c0_ c1_ s2_
      go_wp2
      go_roundw
      case rel => exact ⟨k + 1, by omega, by go_num, by rw [SU.out], Y2.out⟩
      case measure => simp [intOf]; omega
    · have ek : m = k := by omega
      subst ek
      go_wp2
      go_ret
      exact ⟨ret_int (by unfold unitF; rw [hm.out]), X0.out.trans HX.out⟩

def sumN (d : CoD) (x : ItD) (k : Nat) : Int := (worthsN d x k).sum
theorem sumN_succ (d : CoD) (x : ItD) (k : Nat) : sumN d x (k + 1) = sumN d x k + worthAt d x k := by unfold sumN; rw [worthsN_succ, List.sum_append]; simp
theorem sumN_bd {d : CoD} (hd : CodeOk d) (x : ItD) (k : Nat) : 0 ≤ sumN d x k ∧ sumN d x k ≤ 2000 * k := sumW_bd hd x k

set_option maxRecDepth 100000 in
set_option maxHeartbeats 4000000 in
theorem s.bsFull_m (w : World) (v : Value) (d : CoD) (vs : List Value) (x : ItD) (h : kC.rd w v d) (hok : kC.ok d) (hd : CodeOk d) (hx : kdItem.rd w w.heap.size vs x) (hi : ItOk d x) :
    Calls Tryz.prog 120 #[v, kdItem.val vs] w fun e w' => e = .returned (.int .i64 (fullF d x)) ∧ Ext w w' := by
  obtain ⟨Ac, cc, Al, cl, rfl, hle, _⟩ := kC.lr h
  have HR := hide h
  have HLE := hide hle
  obtain ⟨nc, NC⟩ : ∃ z, Hid (d.1.length = z) := ⟨_, rfl⟩
  obtain ⟨nl, NL⟩ : ∃ z, Hid (d.2.1.length = z) := ⟨_, rfl⟩
  obtain ⟨r, RN⟩ : ∃ z, Hid (d.2.2.1 = z) := ⟨_, rfl⟩
  obtain ⟨b, BN⟩ : ∃ z, Hid (d.2.2.2.1 = z) := ⟨_, rfl⟩
  obtain ⟨p, PN⟩ : ∃ z, Hid (d.2.2.2.2.1 = z) := ⟨_, rfl⟩
  obtain ⟨f, FN⟩ : ∃ z, Hid (d.2.2.2.2.2 = z) := ⟨_, rfl⟩
  rw [NC.out, NL.out, RN.out, BN.out, PN.out, FN.out] at HR ⊢
  clear hle
  obtain ⟨A1, c1, A2, c2, rfl, h1, h2⟩ := kdItem.open_ hx
  rw [kdItem.val3]
  have H1 := hide h1
  have H2 := hide h2
  have a1 := h1.1; have a2 := h1.2.1; have a3 := h2.1; have a4 := h2.2.1
  have i1 := hi.n1; have i3 := hi.n3
  have ML := hide hi.ml
  have HI := hide hi
  have HD := hide hd
  clear h hx h1 h2 hi hd
  rw [ML.out] at a3 ⊢
  obtain ⟨m, hm⟩ : ∃ m, Hid (x.1.length = m) := ⟨_, rfl⟩
  rw [hm.out] at a1 a3 i1 i3 ⊢
  obtain ⟨q, hq⟩ : ∃ q, Hid (x.2.2 = q) := ⟨_, rfl⟩
  rw [hq.out]
  obtain ⟨W0, hW0⟩ : ∃ W0, Hid (W0 = (w.alloc (.cells #[.slice Ac nc cc, .slice Al nl cl, .int .i64 r, .int .i64 b, .int .i64 p, .int .i64 f] 26)).alloc (.cells #[.slice A1 m c1, .slice A2 m c2, .bool q] 47)) := ⟨_, rfl⟩
  have X0 : Hid (Ext w W0) := by rw [hW0.out]; exact (Ext.alloc w _).trans (Ext.alloc _ _)
  have B0 : Hid (Blk W0 w.heap.size #[.slice Ac nc cc, .slice Al nl cl, .int .i64 r, .int .i64 b, .int .i64 p, .int .i64 f] 26) := by rw [hW0.out]; exact (Blk.new rfl _ _).alloc _
  have B1 : Hid (Blk W0 (w.heap.size + 1) #[.slice A1 m c1, .slice A2 m c2, .bool q] 47) := by rw [hW0.out]; exact Blk.new (by simp) _ _
  have zW := X0.out.size
  have cIa := B1.out.cell
  rw [hW0.out] at cIa
  go_enter Tryz.func120, Tryz.ntmps120
  go_wp2
  rw [← hW0.out]
  clear hW0 cIa
  go_loopw [5, 11] (fun o i wr => ∃ (k : Nat), k ≤ m ∧ i = .int .i64 k ∧ o = .int .i64 (sumN d x k) ∧ Ext W0 wr) (fun _ i _ => m - (intOf i).toNat)
  case atStart => exact ⟨0, Nat.zero_le _, rfl, rfl, Ext.refl _⟩
  case round =>
    obtain ⟨k, hk, rfl, rfl, hx⟩ := hrel
    have HX := hide hx
    clear hx
    by_cases hlt : k < m
    · obtain ⟨nm, hnk⟩ : ∃ nm, Hid (x.1[k]? = some nm) := ⟨_, List.getElem?_eq_getElem (by rw [hm.out]; exact hlt)⟩
      obtain ⟨mk, hmk⟩ : ∃ mk, Hid (x.2.1[k]? = some mk) := ⟨_, List.getElem?_eq_getElem (by rw [ML.out, hm.out]; exact hlt)⟩
      have XW := hide (X0.out.trans HX.out)
      obtain ⟨bn, on, rfl, hbn, u0, ul⟩ := (H1.out.ext XW.out (Nat.le_refl _)).str k nm hnk.out
      obtain ⟨bm, om, rfl, hbm, u1⟩ := (H2.out.ext XW.out (Nat.le_refl _)).intAt k mk hmk.out
      have sz := XW.out.size
      have WA : Hid (worthAt d x k = worthN d nm mk) := worthAt_some hnk.out hmk.out
      have FI := HI.out.kn k nm hnk.out
      have FE := hide (fun (wq : World) (xq : Ext W0 wq) => s.bsWorth_m wq _ d nm mk (kC.rd_ext HR.out (X0.out.trans xq)) hok HD.out FI)
      rw [← WA.out] at FE
      have Zb := worthN_bd HD.out nm mk
      rw [← WA.out] at Zb
      have Sb := sumN_bd HD.out x k
      have SU := hide (sumN_succ d x k)
      have zl : w.heap.size + 1 < W0.heap.size := B1.out.lt
      have SF : Hid (∀ w', Ext W0 w' → (∀ i, w'.cell? ⟨w.heap.size, i, none⟩ = #[Value.slice Ac nc cc, .slice Al nl cl, .int .i64 r, .int .i64 b, .int .i64 p, .int .i64 f][i]?) ∧ (∀ i, w'.cell? ⟨w.heap.size + 1, i, none⟩ = #[Value.slice (some ⟨bn, on, none⟩) m c1, .slice (some ⟨bm, om, none⟩) m c2, .bool q][i]?) ∧ w'.cell? ⟨bm, om + k, none⟩ = some (.int .i64 mk)) := by
        intro w' xq
        have xx := X0.out.trans xq
        obtain ⟨_, _, hh, _, hmc⟩ := (H2.out.ext xx (Nat.le_refl _)).intAt k mk hmk.out
        simp only [Option.some.injEq, Addr.mk.injEq, and_true] at hh
        obtain ⟨rfl, rfl⟩ := hh
        exact ⟨(B0.out.ext xq).cell, (B1.out.ext xq).cell, hmc⟩
      clear u1 WA FI
      generalize worthAt d x k = Z at *
      generalize hs9 : sumN d x k = Sk at *
      clear hs9
      have cN := u0
      go_wp2
      clear cN u0
      obtain ⟨c0_, c1_, s2_⟩ := SF.out wr HX.out
      have kw : IntKind.i64.wrap (Sk + Z) = Sk + Z := IntWalk.i64_in _ (by omega)
      go_region_held3 (fun w' => (∀ i, w'.cell? ⟨w.heap.size, i, none⟩ = #[Value.slice Ac nc cc, .slice Al nl cl, .int .i64 r, .int .i64 b, .int .i64 p, .int .i64 f][i]?) ∧ (∀ i, w'.cell? ⟨w.heap.size + 1, i, none⟩ = #[Value.slice (some ⟨bn, on, none⟩) m c1, .slice (some ⟨bm, om, none⟩) m c2, .bool q][i]?) ∧ w'.cell? ⟨bm, om + k, none⟩ = some (.int .i64 mk))
        (first | exact SF.out _ Y2.out | exact SF.out _ (HX.out.trans (Ext.drew wr)))
        (first
        
        | (go_at_call 99; refine (FE.out wr.drew (HX.out.trans (Ext.drew wr))).mono ?_; rintro e w2 ⟨rfl, x2⟩; have Y2 := hide ((HX.out.trans (Ext.drew wr)).trans x2); clear x2))
      clear kw c0_ c1_ s2_
      go_wp2
      go_roundw
      case rel => exact ⟨k + 1, by omega, by go_num, by rw [SU.out], Y2.out⟩
      case measure => simp [intOf]; omega
    · have ek : m = k := by omega
      subst ek
      have Sb := sumN_bd HD.out x m
      have FF : Hid (fullF d x = if q then roundI (sumN d x m * (100 + b)) 100 else sumN d x m) := by show _ = _; rw [← BN.out, ← hq.out, ← hm.out]; rfl
      have bb := HD.out.bon
      rw [BN.out] at bb
      generalize sumN d x m = Sk at *
      have h0 : 0 ≤ Sk * (100 + b) := Int.mul_nonneg (by omega) (by omega)
      have h1 : Sk * (100 + b) ≤ Sk * 120 := Int.mul_le_mul_of_nonneg_left (by omega) (by omega)
      have h2 : Sk * (100 + b) ≤ 1000000 := by omega
      clear h1
      have cB := (B0.out.ext HX.out).cell; have cI := (B1.out.ext HX.out).cell
      cases q
      · go_wp2
        go_ret
        exact ⟨ret_int (by rw [FF.out]; rfl), X0.out.trans HX.out⟩
      · go_wp2_with (go_at_call 92; refine (s.poRound_any _ _ _ (by omega) (by omega) (by omega) (by omega)).mono ?_; rintro e w3 ⟨rfl, rfl⟩)
        go_ret
        exact ⟨ret_int (by rw [FF.out]; rfl), X0.out.trans HX.out⟩

theorem small_of {zs : List Int} (h : ∀ z ∈ zs, 0 ≤ z ∧ z ≤ 2000) : Small zs := fun z hz => by have := h z hz; omega
set_option maxRecDepth 100000 in
set_option maxHeartbeats 1000000 in
theorem i.fullBase_m (w : World) (v : Value) (d : CoD) (vs : List Value) (x : ItD) (h : kC.rd w v d) (hok : kC.ok d) (hd : CodeOk d) (hx : kdItem.rd w w.heap.size vs x) (hi : ItOk d x) :
    Calls Tryz.prog 95 #[v, kdItem.val vs] w fun e w' => e = .returned (.int .i64 (fullF d x)) ∧ Ext w w' := by
  have IX := hide (fun (wq : World) (xq : Ext w wq) => i.worths_m wq v d vs x (kC.rd_ext h xq) hok hd (kdItem.rd_more (kdItem.rd_ext hx xq (Nat.le_refl _)) xq.size) hi)
  obtain ⟨Ac, cc, Al, cl, rfl, hle, _⟩ := kC.lr h
  have HR := hide h
  have HLE := hide hle
  obtain ⟨nc, NC⟩ : ∃ z, Hid (d.1.length = z) := ⟨_, rfl⟩
  obtain ⟨nl, NL⟩ : ∃ z, Hid (d.2.1.length = z) := ⟨_, rfl⟩
  obtain ⟨r, RN⟩ : ∃ z, Hid (d.2.2.1 = z) := ⟨_, rfl⟩
  obtain ⟨b, BN⟩ : ∃ z, Hid (d.2.2.2.1 = z) := ⟨_, rfl⟩
  obtain ⟨p, PN⟩ : ∃ z, Hid (d.2.2.2.2.1 = z) := ⟨_, rfl⟩
  obtain ⟨f, FN⟩ : ∃ z, Hid (d.2.2.2.2.2 = z) := ⟨_, rfl⟩
  rw [NC.out, NL.out, RN.out, BN.out, PN.out, FN.out] at HR IX ⊢
  clear hle
  obtain ⟨A1, c1, A2, c2, rfl, h1, h2⟩ := kdItem.open_ hx
  rw [kdItem.val3] at IX ⊢
  have H1 := hide h1
  have H2 := hide h2
  have a1 := h1.1; have a2 := h1.2.1; have a3 := h2.1; have a4 := h2.2.1
  have i1 := hi.n1; have i3 := hi.n3
  have ML := hide hi.ml
  have HI := hide hi
  have HD := hide hd
  clear h hx h1 h2 hi hd
  rw [ML.out] at a3 IX ⊢
  obtain ⟨m, hm⟩ : ∃ m, Hid (x.1.length = m) := ⟨_, rfl⟩
  rw [hm.out] at a1 a3 i1 i3 IX ⊢
  obtain ⟨q, hq⟩ : ∃ q, Hid (x.2.2 = q) := ⟨_, rfl⟩
  rw [hq.out] at IX ⊢
  obtain ⟨W0, hW0⟩ : ∃ W0, Hid (W0 = (w.alloc (.cells #[.slice Ac nc cc, .slice Al nl cl, .int .i64 r, .int .i64 b, .int .i64 p, .int .i64 f] 26)).alloc (.cells #[.slice A1 m c1, .slice A2 m c2, .bool q] 47)) := ⟨_, rfl⟩
  have X0 : Hid (Ext w W0) := by rw [hW0.out]; exact (Ext.alloc w _).trans (Ext.alloc _ _)
  have B0 : Hid (Blk W0 w.heap.size #[.slice Ac nc cc, .slice Al nl cl, .int .i64 r, .int .i64 b, .int .i64 p, .int .i64 f] 26) := by rw [hW0.out]; exact (Blk.new rfl _ _).alloc _
  have B1 : Hid (Blk W0 (w.heap.size + 1) #[.slice A1 m c1, .slice A2 m c2, .bool q] 47) := by rw [hW0.out]; exact Blk.new (by simp) _ _
  have zW := X0.out.size
  have Sb := sumN_bd HD.out x m
  have SS : Hid ((worthsF d x).sum = sumN d x m) := by show _ = _; rw [← hm.out]; rfl
  have SM := small_of (worthsN_bd HD.out x x.1.length)
  have FF : Hid (fullF d x = if q then roundI (sumN d x m * (100 + b)) 100 else sumN d x m) := by show _ = _; rw [← BN.out, ← hq.out, ← hm.out]; rfl
  have bb := HD.out.bon
  rw [BN.out] at bb
  rw [FF.out]
  have WL : Hid ((worthsF d x).length = m) := by show _ = _; rw [← hm.out]; exact worthsN_len _ _ _
  generalize sumN d x m = Sk at *
  have h0 : 0 ≤ Sk * (100 + b) := Int.mul_nonneg (by omega) (by omega)
  have h1 : Sk * (100 + b) ≤ Sk * 120 := Int.mul_le_mul_of_nonneg_left (by omega) (by omega)
  have h2 : Sk * (100 + b) ≤ 1000000 := by omega
  clear h1
  go_enter Tryz.func95, Tryz.ntmps95
  go_wp2_with fail
  rw [← hW0.out]
  clear hW0
  refine (IX.out W0 X0.out).mono ?_
  rintro e w1 ⟨A9, c9, rfl, o1, x1⟩
  have SL := o1.sl
  have X1 := hide (X0.out.trans x1)
  have cB := (B0.out.ext x1).cell; have cI := (B1.out.ext x1).cell
  have SUM := i.sumInts_any A9 m c9 w1.heap.size _ w1 SL (by omega) (show Small (worthsF d x) from SM)
  rw [SS.out] at SUM
  have SUMH := hide SUM
  clear SUM SL o1 x1 IX SM
  cases q
  · go_wp2_with (go_at_call 39; refine SUMH.out.mono ?_; rintro e w3 ⟨rfl, rfl⟩)
    go_ret
    exact ⟨rfl, X1.out⟩
  · go_wp2_with (first | (go_at_call 39; refine SUMH.out.mono ?_; rintro e w3 ⟨rfl, rfl⟩) | (go_at_call 89; refine (i.roundDiv_any _ _ _ (by omega) (by omega) (by omega) (by omega)).mono ?_; rintro e w3 ⟨rfl, rfl⟩))
    go_ret
    exact ⟨rfl, X1.out⟩

set_option maxRecDepth 100000 in
set_option maxHeartbeats 1000000 in
theorem i.unitOf_m (w : World) (v : Value) (d : CoD) (vs : List Value) (x : ItD) (h : kC.rd w v d) (hok : kC.ok d) (hd : CodeOk d) (hx : kdItem.rd w w.heap.size vs x) (hi : ItOk d x) :
    Calls Tryz.prog 57 #[v, kdItem.val vs] w fun e w' => e = .returned (.int .i64 (unitF d x)) ∧ Ext w w' := by
  have IX := hide (fun (wq : World) (xq : Ext w wq) => i.worths_m wq v d vs x (kC.rd_ext h xq) hok hd (kdItem.rd_more (kdItem.rd_ext hx xq (Nat.le_refl _)) xq.size) hi)
  obtain ⟨Ac, cc, Al, cl, rfl, hle, _⟩ := kC.lr h
  have HR := hide h
  have HLE := hide hle
  obtain ⟨nc, NC⟩ : ∃ z, Hid (d.1.length = z) := ⟨_, rfl⟩
  obtain ⟨nl, NL⟩ : ∃ z, Hid (d.2.1.length = z) := ⟨_, rfl⟩
  obtain ⟨r, RN⟩ : ∃ z, Hid (d.2.2.1 = z) := ⟨_, rfl⟩
  obtain ⟨b, BN⟩ : ∃ z, Hid (d.2.2.2.1 = z) := ⟨_, rfl⟩
  obtain ⟨p, PN⟩ : ∃ z, Hid (d.2.2.2.2.1 = z) := ⟨_, rfl⟩
  obtain ⟨f, FN⟩ : ∃ z, Hid (d.2.2.2.2.2 = z) := ⟨_, rfl⟩
  rw [NC.out, NL.out, RN.out, BN.out, PN.out, FN.out] at HR IX ⊢
  clear hle
  obtain ⟨A1, c1, A2, c2, rfl, h1, h2⟩ := kdItem.open_ hx
  rw [kdItem.val3] at IX ⊢
  have H1 := hide h1
  have H2 := hide h2
  have a1 := h1.1; have a2 := h1.2.1; have a3 := h2.1; have a4 := h2.2.1
  have i1 := hi.n1; have i3 := hi.n3
  have ML := hide hi.ml
  have HI := hide hi
  have HD := hide hd
  clear h hx h1 h2 hi hd
  rw [ML.out] at a3 IX ⊢
  obtain ⟨m, hm⟩ : ∃ m, Hid (x.1.length = m) := ⟨_, rfl⟩
  rw [hm.out] at a1 a3 i1 i3 IX ⊢
  obtain ⟨q, hq⟩ : ∃ q, Hid (x.2.2 = q) := ⟨_, rfl⟩
  rw [hq.out] at IX ⊢
  obtain ⟨W0, hW0⟩ : ∃ W0, Hid (W0 = (w.alloc (.cells #[.slice Ac nc cc, .slice Al nl cl, .int .i64 r, .int .i64 b, .int .i64 p, .int .i64 f] 26)).alloc (.cells #[.slice A1 m c1, .slice A2 m c2, .bool q] 47)) := ⟨_, rfl⟩
  have X0 : Hid (Ext w W0) := by rw [hW0.out]; exact (Ext.alloc w _).trans (Ext.alloc _ _)
  have B0 : Hid (Blk W0 w.heap.size #[.slice Ac nc cc, .slice Al nl cl, .int .i64 r, .int .i64 b, .int .i64 p, .int .i64 f] 26) := by rw [hW0.out]; exact (Blk.new rfl _ _).alloc _
  have B1 : Hid (Blk W0 (w.heap.size + 1) #[.slice A1 m c1, .slice A2 m c2, .bool q] 47) := by rw [hW0.out]; exact Blk.new (by simp) _ _
  have zW := X0.out.size
  have MX := hide (maxL_unit HD.out x)
  rw [← MX.out]
  go_enter Tryz.func57, Tryz.ntmps57
  go_wp2_with fail
  rw [← hW0.out]
  clear hW0
  refine (IX.out W0 X0.out).mono ?_
  rintro e w1 ⟨A9, c9, rfl, o1, x1⟩
  have X1 := hide (X0.out.trans x1)
  have MM := hide (slicesMax_any A9 m c9 w1.heap.size _ w1 o1.sl (by omega) (by omega))
  clear o1 x1 IX
  go_wp2_with (go_at_call 96; refine MM.out.mono ?_; rintro e w3 ⟨rfl, rfl⟩)
  go_ret
  exact ⟨rfl, X1.out⟩
end Go.Proofs.YtaoeomgehpdedaaGreat

/- Items as a kind; known items; UnitOf. -/
namespace Go.Proofs.YtaoeomgehpdedaaGreat
open Go.RowKit Go.Sort
set_option linter.unusedVariables false

def kIm : Kind ItD where
  rd w v d := ∃ vs, v = kdItem.val vs ∧ kdItem.rd w w.heap.size vs d
  fr w lo hi v d := ∃ vs fp, v = kdItem.val vs ∧ kdItem.own w vs d fp ∧ (∀ i ∈ fp, lo ≤ i ∧ i < hi)
  ok d := kdItem.wt d ≤ 1048576
  mrk _ d := d
  cnt _ := 0
  rd_ext := by
    rintro w w' v d ⟨vs, rfl, h⟩ hx
    exact ⟨vs, rfl, kdItem.rd_more (kdItem.rd_ext h hx (Nat.le_refl _)) hx.size⟩
  fr_rd := by
    rintro w lo hi v d ⟨vs, fp, rfl, h, _⟩
    exact ⟨vs, rfl, kdItem.own_rd h⟩
  fr_tch := by
    rintro w w' lo hi lo' hi' v d ⟨vs, fp, rfl, h, hf⟩ k hd
    refine ⟨vs, fp, rfl, kdItem.own_keep h (fun i hi' => k.block i (kdItem.own_lt h i hi') ?_), hf⟩
    have := hf i hi'
    omega
  ok_cnt := fun _ => Nat.zero_le _
def kIm.wt (d : ItD) : Nat := kdItem.wt d
theorem kIm.ok_of {d : ItD} (h : ¬ 1048576 < kIm.wt d) : kIm.ok d := Nat.le_of_not_lt h
theorem kIm.lr {w : World} {v : Value} {d : ItD} (h : kIm.rd w v d) : ∃ A c A' c', v = .agg #[.slice A d.1.length c, .slice A' d.2.1.length c', .bool d.2.2] ∧ LR kdS w w.heap.size A c d.1 ∧ LR kdInt w w.heap.size A' c' d.2.1 := by
  obtain ⟨vs, rfl, h⟩ := h
  obtain ⟨A, c, A', c', rfl, h1⟩ := kdItem.open_ h
  exact ⟨A, c, A', c', rfl, h1⟩
theorem kIm.shape {w : World} {v : Value} {d : ItD} (h : kIm.rd w v d) : ∃ A n c A' n' c' q, v = .agg #[.slice A n c, .slice A' n' c', .bool q] := by
  obtain ⟨A, c, A', c', rfl, _⟩ := kIm.lr h
  exact ⟨A, _, c, A', _, c', _, rfl⟩
theorem LR.oneI {w : World} {B : Nat} {x : ItD} {A1 A2 : Option Addr} {c1 c2 : Nat} (h1 : LR kdS w B A1 c1 x.1) (h2 : LR kdInt w B A2 c2 x.2.1) (hB : B ≤ w.heap.size) (e : TypeId) :
    LR kdItem (w.alloc (.cells #[.slice A1 x.1.length c1, .slice A2 x.2.1.length c2, .bool x.2.2] e)) (w.heap.size + 1) (some ⟨w.heap.size, 0, none⟩) 1 [x] := by
  refine ⟨Nat.le_refl _, by omega, fun k y hk => ?_⟩
  cases k with
  | succ k => simp at hk
  | zero =>
    simp at hk
    subst hk
    have X := Ext.alloc w (.cells #[.slice A1 x.1.length c1, .slice A2 x.2.1.length c2, .bool x.2.2] e)
    refine ⟨w.heap.size, 0, [.slice A1 x.1.length c1, .slice A2 x.2.1.length c2, .bool x.2.2], rfl, by omega, kdItem.mk_ ((h1.ext X hB).more (by omega)) ((h2.ext X hB).more (by omega)), ?_⟩
    intro j u hj
    rcases j with _ | _ | _ | j
    · simp at hj; subst hj; simp [World.cell?_alloc_at]
    · simp at hj; subst hj; simp [World.cell?_alloc_at]
    · simp at hj; subst hj; simp [World.cell?_alloc_at]
    · simp at hj
theorem items_one (x : ItD) : itemsB [x] = itemB x := by simp [itemsB]
theorem known_one (els : List ElD) (x : ItD) : knownB els [x] = knownI els x := by simp [knownB]
def unitLaw (d : CoD) (x : ItD) : Int × Bool := if codeB d && itemB x && knownI d.1 x then (unitF d x, true) else (0, false)

set_option maxRecDepth 100000 in
set_option maxHeartbeats 1000000 in
theorem s.bsGood_m (w : World) (v : Value) (d : CoD) (A : Option Addr) (c B : Nat) (xs : List ItD) (h : kC.rd w v d) (hok : kC.ok d) (hi : LR kdItem w B A c xs) (hB : B ≤ w.heap.size) (hlen : xs.length ≤ 1048576) (hwt : ∀ (k : Nat) (x : ItD), xs[k]? = some x → kdItem.wt x ≤ 1048576) :
    Calls Tryz.prog 58 #[v, .slice A xs.length c] w fun e w' => e = .returned (.bool (codeB d && itemsB xs && knownB d.1 xs)) ∧ Ext w w' := by
  obtain ⟨Ac, nc, cc, Al, nl, cl, r, b, p, f, rfl⟩ := kC.shape h
  have IC := hide (fun (wq : World) (xq : Ext w wq) => s.cdGood_m wq _ d (kC.rd_ext h xq) hok)
  have II := hide (fun (wq : World) (xq : Ext w wq) => s.itList_wk wq A c B xs (hi.ext xq hB) (Nat.le_trans hB xq.size) hlen hwt)
  have IK := hide (fun (wq : World) (xq : Ext w wq) => s.bsKnows_m wq _ d A c B xs (kC.rd_ext h xq) hok (hi.ext xq hB) (Nat.le_trans hB xq.size) hlen hwt)
  clear h hi hwt
  obtain ⟨W0, hW0⟩ : ∃ W0, Hid (W0 = w.alloc (.cells #[.slice Ac nc cc, .slice Al nl cl, .int .i64 r, .int .i64 b, .int .i64 p, .int .i64 f] 26)) := ⟨_, rfl⟩
  have X0 : Hid (Ext w W0) := by rw [hW0.out]; exact Ext.alloc w _
  have B0 : Hid (Blk W0 w.heap.size #[.slice Ac nc cc, .slice Al nl cl, .int .i64 r, .int .i64 b, .int .i64 p, .int .i64 f] 26) := by rw [hW0.out]; exact Blk.new rfl _ _
  generalize xs.length = n at *
  obtain ⟨R, hR⟩ : ∃ R, Hid ((codeB d && itemsB xs && knownB d.1 xs) = R) := ⟨_, rfl⟩
  rw [hR.out]
  go_enter Tryz.func58, Tryz.ntmps58
  go_wp2_with fail
  rw [← hW0.out]
  clear hW0
  refine (IC.out W0 X0.out).mono ?_
  rintro e w1 ⟨rfl, x1⟩
  replace X0 := hide (X0.out.trans x1)
  replace B0 := hide (B0.out.ext x1)
  clear x1
  have c0_ := B0.out.cell
  cases hc : codeB d
  · have HF : Hid (R = false) := by show _ = _; rw [← hR.out, hc]; rfl
    clear hc
    go_wp2
    go_ret
    exact ⟨ret_bool HF.out.symm, X0.out⟩
  rw [hc, Bool.true_and] at hR
  clear hc
  go_wp2_with fail
  refine (II.out w1 X0.out).mono ?_
  rintro e w2 ⟨rfl, x1⟩
  replace X0 := hide (X0.out.trans x1)
  replace B0 := hide (B0.out.ext x1)
  clear x1 c0_
  have c0_ := B0.out.cell
  cases hi : itemsB xs
  · have HF : Hid (R = false) := by show _ = _; rw [← hR.out, hi]; rfl
    clear hi
    go_wp2
    go_ret
    exact ⟨ret_bool HF.out.symm, X0.out⟩
  rw [hi, Bool.true_and] at hR
  clear hi
  go_wp2_with fail
  refine (IK.out w2 X0.out).mono ?_
  rintro e w3 ⟨rfl, x1⟩
  clear c0_
  have XX := hide (X0.out.trans x1)
  clear x1
  go_wp2
  go_ret
  exact ⟨ret_bool hR.out, XX.out⟩
set_option maxRecDepth 100000 in
set_option maxHeartbeats 1000000 in
theorem i.areKnown_m (w : World) (v : Value) (d : CoD) (A : Option Addr) (c B : Nat) (xs : List ItD) (h : kC.rd w v d) (hok : kC.ok d) (hi : LR kdItem w B A c xs) (hB : B ≤ w.heap.size) (hlen : xs.length ≤ 1048576) (hwt : ∀ (k : Nat) (x : ItD), xs[k]? = some x → kdItem.wt x ≤ 1048576) :
    Calls Tryz.prog 93 #[v, .slice A xs.length c] w fun e w' => e = .returned (.bool (codeB d && itemsB xs && knownB d.1 xs)) ∧ Ext w w' := by
  obtain ⟨Ac, nc, cc, Al, nl, cl, r, b, p, f, rfl⟩ := kC.shape h
  have IC := hide (fun (wq : World) (xq : Ext w wq) => i.IsCode_m wq _ d (kC.rd_ext h xq) hok)
  have II := hide (fun (wq : World) (xq : Ext w wq) => i.AreItems_wk wq A c B xs (hi.ext xq hB) (Nat.le_trans hB xq.size) hlen hwt)
  have IK := hide (fun (wq : World) (xq : Ext w wq) => i.isKnown_m wq _ d A c B xs (kC.rd_ext h xq) hok (hi.ext xq hB) (Nat.le_trans hB xq.size) hlen hwt)
  clear h hi hwt
  obtain ⟨W0, hW0⟩ : ∃ W0, Hid (W0 = w.alloc (.cells #[.slice Ac nc cc, .slice Al nl cl, .int .i64 r, .int .i64 b, .int .i64 p, .int .i64 f] 26)) := ⟨_, rfl⟩
  have X0 : Hid (Ext w W0) := by rw [hW0.out]; exact Ext.alloc w _
  have B0 : Hid (Blk W0 w.heap.size #[.slice Ac nc cc, .slice Al nl cl, .int .i64 r, .int .i64 b, .int .i64 p, .int .i64 f] 26) := by rw [hW0.out]; exact Blk.new rfl _ _
  generalize xs.length = n at *
  obtain ⟨R, hR⟩ : ∃ R, Hid ((codeB d && itemsB xs && knownB d.1 xs) = R) := ⟨_, rfl⟩
  rw [hR.out]
  go_enter Tryz.func93, Tryz.ntmps93
  go_wp2_with fail
  rw [← hW0.out]
  clear hW0
  refine (IC.out W0 X0.out).mono ?_
  rintro e w1 ⟨rfl, x1⟩
  replace X0 := hide (X0.out.trans x1)
  replace B0 := hide (B0.out.ext x1)
  clear x1
  have c0_ := B0.out.cell
  cases hc : codeB d
  · have HF : Hid (R = false) := by show _ = _; rw [← hR.out, hc]; rfl
    clear hc
    go_wp2
    go_ret
    exact ⟨ret_bool HF.out.symm, X0.out⟩
  rw [hc, Bool.true_and] at hR
  clear hc
  go_wp2_with fail
  refine (II.out w1 X0.out).mono ?_
  rintro e w2 ⟨rfl, x1⟩
  replace X0 := hide (X0.out.trans x1)
  replace B0 := hide (B0.out.ext x1)
  clear x1 c0_
  have c0_ := B0.out.cell
  cases hi : itemsB xs
  · have HF : Hid (R = false) := by show _ = _; rw [← hR.out, hi]; rfl
    clear hi
    go_wp2
    go_ret
    exact ⟨ret_bool HF.out.symm, X0.out⟩
  rw [hi, Bool.true_and] at hR
  clear hi
  go_wp2_with fail
  refine (IK.out w2 X0.out).mono ?_
  rintro e w3 ⟨rfl, x1⟩
  clear c0_
  have XX := hide (X0.out.trans x1)
  clear x1
  go_wp2
  go_ret
  exact ⟨ret_bool hR.out, XX.out⟩

set_option maxRecDepth 100000 in
set_option maxHeartbeats 1000000 in
theorem i.isKnownItem_m (w : World) (v : Value) (d : CoD) (v' : Value) (x : ItD) (h : kC.rd w v d) (hok : kC.ok d) (hx : kIm.rd w v' x) (hok' : kIm.ok x) :
    Calls Tryz.prog 56 #[v, v'] w fun e w' => e = .returned (.bool (codeB d && itemB x && knownI d.1 x)) ∧ Ext w w' := by
  obtain ⟨Ac, nc, cc, Al, nl, cl, r, b, p, f, rfl⟩ := kC.shape h
  have HR := hide h
  have HV := hide hx
  obtain ⟨vs, rfl, hx2⟩ := hx
  obtain ⟨A1, c1, A2, c2, rfl, h1, h2⟩ := kdItem.open_ hx2
  rw [kdItem.val3] at HV ⊢
  have HX' := hide hx2
  have H1 := hide h1
  have H2 := hide h2
  clear h hx2 h1 h2
  obtain ⟨W0, hW0⟩ : ∃ W0, Hid (W0 = (w.alloc (.cells #[.slice Ac nc cc, .slice Al nl cl, .int .i64 r, .int .i64 b, .int .i64 p, .int .i64 f] 26)).alloc (.cells #[.slice A1 x.1.length c1, .slice A2 x.2.1.length c2, .bool x.2.2] 47)) := ⟨_, rfl⟩
  have X0 : Hid (Ext w W0) := by rw [hW0.out]; exact (Ext.alloc w _).trans (Ext.alloc _ _)
  have B0 : Hid (Blk W0 w.heap.size #[.slice Ac nc cc, .slice Al nl cl, .int .i64 r, .int .i64 b, .int .i64 p, .int .i64 f] 26) := by rw [hW0.out]; exact (Blk.new rfl _ _).alloc _
  have B1 : Hid (Blk W0 (w.heap.size + 1) #[.slice A1 x.1.length c1, .slice A2 x.2.1.length c2, .bool x.2.2] 47) := by rw [hW0.out]; exact Blk.new (by simp) _ _
  have IC := hide (fun (wq : World) (xq : Ext w wq) => i.IsCode_m wq _ d (kC.rd_ext HR.out xq) hok)
  have II := hide (fun (wq : World) (xq : Ext w wq) => i.IsItem_any wq _ x (kdItem.rd_more (kdItem.rd_ext HX'.out xq (Nat.le_refl _)) xq.size) hok')
  have IK := hide (fun (wq : World) (xq : Ext w wq) => i.isKnown_m (wq.alloc (.cells #[.slice A1 x.1.length c1, .slice A2 x.2.1.length c2, .bool x.2.2] 47)) _ d (some ⟨wq.heap.size, 0, none⟩) 1 (wq.heap.size + 1) [x] (kC.rd_ext HR.out (xq.trans (Ext.alloc _ _))) hok (LR.oneI (H1.out.ext xq (Nat.le_refl _)) (H2.out.ext xq (Nat.le_refl _)) xq.size _) (by simp) (by simp) (fun k y hk => by
    cases k with
    | succ k => simp at hk
    | zero => simp at hk; subst hk; exact hok'))
  rw [known_one] at IK
  rw [kdItem.val3] at II
  generalize x.1.length = m at *
  generalize x.2.1.length = m2 at *
  generalize x.2.2 = q at *
  obtain ⟨R, hR⟩ : ∃ R, Hid ((codeB d && itemB x && knownI d.1 x) = R) := ⟨_, rfl⟩
  rw [hR.out]
  go_enter Tryz.func56, Tryz.ntmps56
  go_wp2_with fail
  rw [← hW0.out]
  clear hW0
  refine (IC.out W0 X0.out).mono ?_
  rintro e w1 ⟨rfl, x1⟩
  replace X0 := hide (X0.out.trans x1)
  replace B0 := hide (B0.out.ext x1)
  replace B1 := hide (B1.out.ext x1)
  clear x1
  have c0_ := B0.out.cell; have c1_ := B1.out.cell
  cases hc : codeB d
  · have HF : Hid (R = false) := by show _ = _; rw [← hR.out, hc]; rfl
    clear hc
    go_wp2
    go_ret
    exact ⟨ret_bool HF.out.symm, X0.out⟩
  rw [hc, Bool.true_and] at hR
  clear hc
  go_wp2_with fail
  refine (II.out w1 X0.out).mono ?_
  rintro e w2 ⟨rfl, x1⟩
  replace X0 := hide (X0.out.trans x1)
  replace B0 := hide (B0.out.ext x1)
  replace B1 := hide (B1.out.ext x1)
  clear x1 c0_ c1_
  have c0_ := B0.out.cell; have c1_ := B1.out.cell
  cases hi : itemB x
  · have HF : Hid (R = false) := by show _ = _; rw [← hR.out, hi]; rfl
    clear hi
    go_wp2
    go_ret
    exact ⟨ret_bool HF.out.symm, X0.out⟩
  rw [hi, Bool.true_and] at hR
  clear hi
  go_wp2_with fail
  refine (IK.out w2 X0.out).mono ?_
  rintro e w3 ⟨rfl, x1⟩
  clear c0_ c1_
  have XX := hide ((X0.out.trans (Ext.alloc _ _)).trans x1)
  clear x1
  go_wp2
  go_ret
  exact ⟨ret_bool hR.out, XX.out⟩

set_option maxRecDepth 100000 in
set_option maxHeartbeats 1000000 in
theorem i.UnitOf_law (w : World) (v v' : Value) (d : CoD) (x : ItD) (h : kC.rd w v d) (hok : kC.ok d) (hx : kIm.rd w v' x) (hok' : kIm.ok x) :
    Calls Tryz.prog 20 #[v, v'] w fun e w' => e = .returned (.tuple #[.int .i64 (unitLaw d x).1, .bool (unitLaw d x).2]) ∧ Ext w w' := by
  obtain ⟨Ac, nc, cc, Al, nl, cl, r, b, p, f, rfl⟩ := kC.shape h
  have HR := hide h
  have HV := hide hx
  obtain ⟨vs, rfl, hx2⟩ := hx
  obtain ⟨A1, c1, A2, c2, rfl, h1, h2⟩ := kdItem.open_ hx2
  rw [kdItem.val3] at HV ⊢
  have HX' := hide hx2
  have H1 := hide h1
  have H2 := hide h2
  clear h hx2 h1 h2
  obtain ⟨W0, hW0⟩ : ∃ W0, Hid (W0 = (w.alloc (.cells #[.slice Ac nc cc, .slice Al nl cl, .int .i64 r, .int .i64 b, .int .i64 p, .int .i64 f] 26)).alloc (.cells #[.slice A1 x.1.length c1, .slice A2 x.2.1.length c2, .bool x.2.2] 47)) := ⟨_, rfl⟩
  have X0 : Hid (Ext w W0) := by rw [hW0.out]; exact (Ext.alloc w _).trans (Ext.alloc _ _)
  have B0 : Hid (Blk W0 w.heap.size #[.slice Ac nc cc, .slice Al nl cl, .int .i64 r, .int .i64 b, .int .i64 p, .int .i64 f] 26) := by rw [hW0.out]; exact (Blk.new rfl _ _).alloc _
  have B1 : Hid (Blk W0 (w.heap.size + 1) #[.slice A1 x.1.length c1, .slice A2 x.2.1.length c2, .bool x.2.2] 47) := by rw [hW0.out]; exact Blk.new (by simp) _ _
  have GD := hide (fun (wq : World) (xq : Ext w wq) => i.isKnownItem_m wq _ d _ x (kC.rd_ext HR.out xq) hok (kIm.rd_ext HV.out xq) hok')
  obtain ⟨F, hF⟩ : ∃ F, Hid (unitLaw d x = F) := ⟨_, rfl⟩
  rw [hF.out]
  have UN : Hid (codeB d = true → itemB x = true → knownI d.1 x = true → ∀ (wq : World), Ext w wq → Calls Tryz.prog 57 #[.agg #[.slice Ac nc cc, .slice Al nl cl, .int .i64 r, .int .i64 b, .int .i64 p, .int .i64 f], .agg #[.slice A1 x.1.length c1, .slice A2 x.2.1.length c2, .bool x.2.2]] wq fun e w' => e = .returned (.int .i64 (unitF d x)) ∧ Ext wq w') := fun q1 q2 q3 wq xq => i.unitOf_m wq _ d _ x (kC.rd_ext HR.out xq) hok (codeB_ok q1) (kdItem.rd_more (kdItem.rd_ext HX'.out xq (Nat.le_refl _)) xq.size) (itOk q2 q3)
  generalize x.1.length = m at *
  generalize x.2.1.length = m2 at *
  generalize x.2.2 = q at *
  have ZZ : Hid (W0.heap.size = w.heap.size + 1 + 1) := by show _ = _; rw [hW0.out]; simp
  go_enter Tryz.func20, Tryz.ntmps20
  go_wp2_with fail
  rw [← hW0.out]
  clear hW0
  (with_reducible refine (GD.out W0 X0.out).mono ?_)
  rintro e w1 ⟨rfl, x1⟩
  replace X0 := hide (X0.out.trans x1)
  replace B0 := hide (B0.out.ext x1)
  replace B1 := hide (B1.out.ext x1)
  clear x1
  have c0_ := B0.out.cell; have c1_ := B1.out.cell
  cases hg : (codeB d && itemB x && knownI d.1 x)
  · have HF : Hid (F = (0, false)) := by show _ = _; rw [← hF.out]; simp [unitLaw, hg]
    clear hg
    go_wp2
    go_ret2
    rw [HF.out]
    exact ⟨rfl, X0.out⟩
  · have HF : Hid (F = (unitF d x, true)) := by show _ = _; rw [← hF.out]; simp [unitLaw, hg]
    simp only [Bool.and_eq_true] at hg
    have UQ := hide (UN.out hg.1.1 hg.1.2 hg.2 w1 X0.out)
    clear hg
    go_wp2_with fail
    refine UQ.out.mono ?_
    rintro e w2 ⟨rfl, x1⟩
    replace X0 := hide (X0.out.trans x1)
    clear x1 c0_ c1_
    go_wp2
    go_ret2
    rw [HF.out]
    exact ⟨rfl, X0.out⟩

set_option maxRecDepth 100000 in
set_option maxHeartbeats 1000000 in
theorem s.UnitOf_law (w : World) (v v' : Value) (d : CoD) (x : ItD) (h : kC.rd w v d) (hok : kC.ok d) (hx : kIm.rd w v' x) (hok' : kIm.ok x) :
    Calls Tryz.prog 21 #[v, v'] w fun e w' => e = .returned (.tuple #[.int .i64 (unitLaw d x).1, .bool (unitLaw d x).2]) ∧ Ext w w' := by
  obtain ⟨Ac, nc, cc, Al, nl, cl, r, b, p, f, rfl⟩ := kC.shape h
  have HR := hide h
  have HV := hide hx
  obtain ⟨vs, rfl, hx2⟩ := hx
  obtain ⟨A1, c1, A2, c2, rfl, h1, h2⟩ := kdItem.open_ hx2
  rw [kdItem.val3] at HV ⊢
  have HX' := hide hx2
  have H1 := hide h1
  have H2 := hide h2
  clear h hx2 h1 h2
  obtain ⟨W0, hW0⟩ : ∃ W0, Hid (W0 = (w.alloc (.cells #[.slice Ac nc cc, .slice Al nl cl, .int .i64 r, .int .i64 b, .int .i64 p, .int .i64 f] 26)).alloc (.cells #[.slice A1 x.1.length c1, .slice A2 x.2.1.length c2, .bool x.2.2] 47)) := ⟨_, rfl⟩
  have X0 : Hid (Ext w W0) := by rw [hW0.out]; exact (Ext.alloc w _).trans (Ext.alloc _ _)
  have B0 : Hid (Blk W0 w.heap.size #[.slice Ac nc cc, .slice Al nl cl, .int .i64 r, .int .i64 b, .int .i64 p, .int .i64 f] 26) := by rw [hW0.out]; exact (Blk.new rfl _ _).alloc _
  have B1 : Hid (Blk W0 (w.heap.size + 1) #[.slice A1 x.1.length c1, .slice A2 x.2.1.length c2, .bool x.2.2] 47) := by rw [hW0.out]; exact Blk.new (by simp) _ _
  have GD := hide (fun (wq : World) (xq : Ext w wq) => s.bsGood_m (wq.alloc (.cells #[.slice A1 x.1.length c1, .slice A2 x.2.1.length c2, .bool x.2.2] 47)) _ d (some ⟨wq.heap.size, 0, none⟩) 1 (wq.heap.size + 1) [x] (kC.rd_ext HR.out (xq.trans (Ext.alloc _ _))) hok (LR.oneI (H1.out.ext xq (Nat.le_refl _)) (H2.out.ext xq (Nat.le_refl _)) xq.size _) (by simp) (by simp) (fun k y hk => by
    cases k with
    | succ k => simp at hk
    | zero => simp at hk; subst hk; exact hok'))
  rw [known_one, items_one] at GD
  obtain ⟨F, hF⟩ : ∃ F, Hid (unitLaw d x = F) := ⟨_, rfl⟩
  rw [hF.out]
  have UN : Hid (codeB d = true → itemB x = true → knownI d.1 x = true → ∀ (wq : World), Ext w wq → Calls Tryz.prog 59 #[.agg #[.slice Ac nc cc, .slice Al nl cl, .int .i64 r, .int .i64 b, .int .i64 p, .int .i64 f], .agg #[.slice A1 x.1.length c1, .slice A2 x.2.1.length c2, .bool x.2.2]] wq fun e w' => e = .returned (.int .i64 (unitF d x)) ∧ Ext wq w') := fun q1 q2 q3 wq xq => s.elUnit_m wq _ d _ x (kC.rd_ext HR.out xq) hok (codeB_ok q1) (kdItem.rd_more (kdItem.rd_ext HX'.out xq (Nat.le_refl _)) xq.size) (itOk q2 q3)
  generalize x.1.length = m at *
  generalize x.2.1.length = m2 at *
  generalize x.2.2 = q at *
  have ZZ : Hid (W0.heap.size = w.heap.size + 1 + 1) := by show _ = _; rw [hW0.out]; simp
  go_enter Tryz.func21, Tryz.ntmps21
  go_wp2_with fail
  rw [← hW0.out]
  clear hW0
  have GQ := GD.out W0 X0.out
  rw [ZZ.out] at GQ
  (with_reducible refine (show Calls _ _ #[.agg #[.slice Ac nc cc, .slice Al nl cl, .int .i64 r, .int .i64 b, .int .i64 p, .int .i64 f], .slice (some ⟨w.heap.size + 1 + 1, 0, none⟩) 1 1] _ _ from GQ).mono ?_)
  rintro e w1 ⟨rfl, x1⟩
  replace x1 := (Ext.alloc W0 _).trans x1
  replace X0 := hide (X0.out.trans x1)
  replace B0 := hide (B0.out.ext x1)
  replace B1 := hide (B1.out.ext x1)
  clear x1
  have c0_ := B0.out.cell; have c1_ := B1.out.cell
  cases hg : (codeB d && itemB x && knownI d.1 x)
  · have HF : Hid (F = (0, false)) := by show _ = _; rw [← hF.out]; simp [unitLaw, hg]
    clear hg
    go_wp2
    go_ret2
    rw [HF.out]
    exact ⟨rfl, X0.out⟩
  · have HF : Hid (F = (unitF d x, true)) := by show _ = _; rw [← hF.out]; simp [unitLaw, hg]
    simp only [Bool.and_eq_true] at hg
    have UQ := hide (UN.out hg.1.1 hg.1.2 hg.2 w1 X0.out)
    clear hg
    go_wp2_with fail
    refine UQ.out.mono ?_
    rintro e w2 ⟨rfl, x1⟩
    replace X0 := hide (X0.out.trans x1)
    clear x1 c0_ c1_
    go_wp2
    go_ret2
    rw [HF.out]
    exact ⟨rfl, X0.out⟩
end Go.Proofs.YtaoeomgehpdedaaGreat

/- Lists of items, codes: weighed with what is left. -/
namespace Go.Proofs.YtaoeomgehpdedaaGreat
open Go.RowKit Go.Sort
set_option linter.unusedVariables false

def kIt.wt (d : List ItD) : Nat := kdItS.wt d
theorem kIt.ok_of {d : List ItD} (h : ¬ 1048576 < kIt.wt d) : kIt.ok d := Nat.le_of_not_lt h
theorem kIt.lr {w : World} {v : Value} {d : List ItD} (h : kIt.rd w v d) : ∃ A c, v = .slice A d.length c ∧ LR kdItem w w.heap.size A c d := by
  obtain ⟨vs, rfl, ⟨A, c, rfl, h⟩⟩ := h
  exact ⟨A, c, rfl, h⟩
end Go.Proofs.YtaoeomgehpdedaaGreat
