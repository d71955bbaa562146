/- The library's stable sort of fewer than forty elements. -/
import Derived.Test.YtcnpbaldnhfebaaSY
namespace Go.Proofs.Ytcnpbaldnhfebaa
open Go.RowKit Go.Sort
set_option linter.unusedVariables false

set_option maxHeartbeats 8000000 in
set_option maxRecDepth 1000000 in
theorem stable_m {α : Type} [Inhabited α] {T : α → α → Prop} (tr : ∀ x y z, T x y → T y z → T x z) (v : α → Int) (cf : α → α → Int) (g : Nat) (cb : Array Value) (blk off cap : Nat) (d0 : Array α) (w0 w : World) (R : Row1 (eI v) w0 blk off d0)
    (eg : ∀ args w, (callFunc g args).run Try.prog w = .ok (.enter g args) w) (hcmp : CmpLays1 Try.prog g cb (eI v) cf blk off d0.size w0) (X : List α) (hs : X.length = d0.size) (h40 : X.length < 40)
    (hX : X.Pairwise (LtOf T (ltOf cf))) (S : SW (eI v) w0 blk off X.toArray w) :
    Calls Try.prog 60 #[.slice (some ⟨blk, off, none⟩) d0.size cap, .int .i64 d0.size, .func (.func g) #[] cb] w fun e w' => e = .returned (.tuple #[]) ∧ ∃ M : List α, M.Perm X ∧ M.Pairwise T ∧ SW (eI v) w0 blk off M.toArray w' := by
  obtain ⟨n, hn⟩ : ∃ n, Hid (d0.size = n) := ⟨_, rfl⟩
  have INS := hide (fun (w : World) (P Y Z : List α) (a b : Nat) => insI_m tr v cf g cb blk off cap d0 w0 w R eg hcmp (by omega) P Y Z a b)
  have SYM := hide (fun (w : World) (P L U Z : List α) (a m b : Nat) => symMerge_m tr v cf g cb blk off cap d0 w0 R eg hcmp (by omega) (L.length + U.length) P L U Z w a m b (Nat.le_refl _))
  rw [hs] at h40
  rw [hn.out] at hs h40 INS SYM ⊢
  have HX := hide hX
  have S0 := hide S
  have HS := hide hs
  have hX2 := hX
  rw [← List.take_append_drop 20 X, List.pairwise_append] at hX2
  have HX2 := hide hX2
  have et : X = X.take 20 ++ X.drop 20 := (List.take_append_drop 20 X).symm
  have ET := hide et
  clear hX S hX2 et hs hcmp R tr
  go_enter Try.func60, Try.ntmps60
  go_wp2
  go_loopw [7, 8] (fun s7 s8 wr => (s7 = .int .i64 0 ∧ s8 = .int .i64 20 ∧ Hid (SW (eI v) w0 blk off X.toArray wr)) ∨ (s7 = .int .i64 20 ∧ s8 = .int .i64 40 ∧ 20 ≤ n ∧ Hid (∃ M1 : List α, M1.Perm (X.take 20) ∧ M1.Pairwise T ∧ SW (eI v) w0 blk off (M1 ++ X.drop 20).toArray wr))) (fun _ s8 _ => 40 - (intOf s8).toNat)
  case atStart => exact .inl ⟨rfl, rfl, S0⟩
  case round =>
    rcases hrel with ⟨rfl, rfl, S1⟩ | ⟨rfl, rfl, h20, S1⟩
    · by_cases h20 : 20 ≤ n
      · have h20z : (20 : Int) ≤ (n : Int) := by omega
        have CC := hide (INS.out wr [] (X.take 20) (X.drop 20) 0 20 rfl (by rw [List.length_take, HS.out]; omega) (by rw [List.length_drop, HS.out]; omega) HX2.out.1 (by rw [List.nil_append, List.take_append_drop]; exact S1.out))
        clear S1
        go_wp2_with (go_at_call 75; refine CC.out.mono ?_; rintro e w' ⟨rfl, M1, p1, t1, S2⟩)
        go_roundw
        case rel => exact .inr ⟨rfl, rfl, h20, M1, p1, t1, S2⟩
        case measure => simp [intOf]
      · have h20z : ¬ (20 : Int) ≤ (n : Int) := by omega
        have h20y : ¬ (20 : Int) < (n : Int) := by omega
        have CC := hide (INS.out wr [] X [] 0 n rfl (by rw [HS.out]; omega) (by simp) HX.out (by rw [List.nil_append, List.append_nil]; exact S1.out))
        clear S1
        go_wp2_with (go_at_call 75; refine CC.out.mono ?_; rintro e w' ⟨rfl, M1, p1, t1, S2⟩)
        rw [List.nil_append, List.append_nil] at S2
        have S3 := hide (And.intro p1 (And.intro t1 S2))
        clear p1 t1 S2
        rename World => w7
        go_loopw [6] (fun s6 wr => s6 = .int .i64 20 ∧ wr = w7) (fun _ _ => 0)
        case atStart => exact ⟨rfl, rfl⟩
        case round =>
          obtain ⟨rfl, rfl⟩ := hrel
          go_wp2
          go_end0
          exact ⟨rfl, M1, S3.out⟩
    · have h20z : (20 : Int) ≤ (n : Int) := by omega
      have h40z : ¬ (40 : Int) ≤ (n : Int) := by omega
      have h40y : ¬ (40 : Int) < (n : Int) := by omega
      obtain ⟨M1, p1, t1, S2⟩ := S1.out
      have l1 : Hid (M1.length = 20) := by show _ = _; rw [p1.length_eq, List.length_take, HS.out]; omega
      have CC := hide (INS.out wr M1 (X.drop 20) [] 20 n l1.out (by rw [List.length_drop, HS.out]; omega) (by simp) HX2.out.2.1 (by rw [List.append_nil]; exact S2))
      have P1 := hide (And.intro p1 t1)
      clear S1 S2 p1 t1
      go_wp2_with (go_at_call 75; refine CC.out.mono ?_; rintro e w' ⟨rfl, M2, p2, t2, S3'⟩)
      rw [List.append_nil] at S3'
      have S3 := hide S3'
      have P2 := hide (And.intro p2 t2)
      have l2 : Hid (M2.length = n - 20) := by show _ = _; rw [p2.length_eq, List.length_drop, HS.out]
      clear S3' p2 t2
      rename World => w7
      go_loopw [6] (fun s6 wr => (s6 = .int .i64 20 ∧ wr = w7) ∨ (s6 = .int .i64 40 ∧ Hid (∃ M : List α, M.Perm X ∧ M.Pairwise T ∧ SW (eI v) w0 blk off M.toArray wr))) (fun s6 _ => 40 - (intOf s6).toNat)
      case atStart => exact .inl ⟨rfl, rfl⟩
      case round =>
        rcases hrel with ⟨rfl, rfl⟩ | ⟨rfl, S9⟩
        · by_cases h21 : 20 < n
          · have h21z : (20 : Int) < (n : Int) := by omega
            have C2 := hide (SYM.out wr [] M1 M2 [] 0 20 n (by rw [l1.out]; omega) (by rw [l2.out]; omega) rfl (by rw [l1.out]) (by rw [l2.out]; omega) (by simp) P1.out.2 P2.out.2 (fun x hx y hy => HX2.out.2.2 x (P1.out.1.mem_iff.1 hx) y (P2.out.1.mem_iff.1 hy)) (by rw [List.nil_append, List.append_nil]; exact S3.out))
            go_wp2
            rename World => w8
            go_loopw [7, 8] (fun s7 s8 wx => s7 = .int .i64 0 ∧ s8 = .int .i64 40 ∧ wx = w8) (fun _ _ _ => 0)
            case atStart => exact ⟨rfl, rfl, rfl⟩
            case round =>
              obtain ⟨rfl, rfl, hw⟩ := hrel
              rw [hw]
              clear hw
              go_wp2_with (go_at_call 76; refine C2.out.mono ?_; rintro e w' ⟨rfl, M, p3, t3, S4⟩)
              go_roundw
              case rel =>
                refine .inr ⟨rfl, M, p3.trans ?_, t3, by rw [List.nil_append, List.append_nil] at S4; exact S4⟩
                rw [ET.out]
                exact P1.out.1.append P2.out.1
              case measure => simp [intOf]
          · have h21z : ¬ (20 : Int) < (n : Int) := by omega
            have e2 : M2 = [] := List.eq_nil_of_length_eq_zero (by rw [l2.out]; omega)
            go_wp2
            go_end0
            refine ⟨rfl, M1, ?_, P1.out.2, by have := S3.out; rw [e2, List.append_nil] at this; exact this⟩
            have h3 := P1.out.1
            rw [List.take_of_length_le (by rw [HS.out]; omega)] at h3
            exact h3
        · go_wp2
          go_end0
          exact ⟨rfl, S9.out⟩
theorem sortStable_m {α : Type} [Inhabited α] {T : α → α → Prop} (tr : ∀ x y z, T x y → T y z → T x z) (v : α → Int) (cf : α → α → Int) (g : Nat) (cb : Array Value) (blk off cap : Nat) (d0 : Array α) (w0 w : World) (R : Row1 (eI v) w0 blk off d0)
    (eg : ∀ args w, (callFunc g args).run Try.prog w = .ok (.enter g args) w) (hcmp : CmpLays1 Try.prog g cb (eI v) cf blk off d0.size w0) (X : List α) (hs : X.length = d0.size) (h40 : X.length < 40)
    (hX : X.Pairwise (LtOf T (ltOf cf))) (S : SW (eI v) w0 blk off X.toArray w) :
    Calls Try.prog 33 #[.slice (some ⟨blk, off, none⟩) d0.size cap, .func (.func g) #[] cb] w fun e w' => e = .returned (.tuple #[]) ∧ ∃ M : List α, M.Perm X ∧ M.Pairwise T ∧ SW (eI v) w0 blk off M.toArray w' := by
  have CC := hide (stable_m tr v cf g cb blk off cap d0 w0 w R eg hcmp X hs h40 hX S)
  have hz : (d0.size : Int) < 40 := by omega
  clear hcmp R hX S tr
  go_enter Try.func33, Try.ntmps33
  go_wp2_with (go_at_call 60; refine CC.out.mono ?_; rintro e w' ⟨rfl, M, p3, t3, S4⟩)
  go_end0
  exact ⟨rfl, M, p3, t3, S4⟩
end Go.Proofs.Ytcnpbaldnhfebaa
