/- strings.Split at one byte. -/
import Derived.Test.YtnokilofcdbjhaaGreatDoorXG
import Derived.Test.YtnokilofcdbjhaaGreatDoorXSp
import Derived.Lib.SplitLaws
import Derived.Lib.IndexBytes
namespace Go.Proofs.YtnokilofcdbjhaaGreatDoor
open Go.RowKit Go.Sort
set_option linter.unusedVariables false

theorem indexByte_at {c : UInt8} {x : List UInt8} (h : c ∉ x) (r : List UInt8) : Lib.indexByte (x ++ c :: r) c = (x.length : Int) := by
  induction x with
  | nil => simp [Lib.indexByte]
  | cons b t ih =>
    have hb : (b == c) = false := by simpa using fun e : b = c => h (by simp [e])
    have := ih (fun hm => h (by simp [hm]))
    rw [List.cons_append, Lib.indexByte, hb, this]
    rw [if_neg (by simp), if_neg (by simp), List.length_cons]
    omega
theorem first_byte {c : UInt8} {l : List UInt8} (h : c ∈ l) : ∃ x r, l = x ++ c :: r ∧ c ∉ x := by
  induction l with
  | nil => cases h
  | cons b t ih =>
    by_cases e : b = c
    · exact ⟨[], t, by rw [e]; rfl, by simp⟩
    · rcases List.mem_cons.1 h with h | h
      · exact absurd h.symm e
      · obtain ⟨x, r, rfl, hx⟩ := ih h
        exact ⟨b :: x, r, rfl, by simp [hx, Ne.symm e]⟩
theorem splitK_one (c : UInt8) : ∀ (k : Nat) (l : List UInt8), l.count c = k → Lib.splitK [c] 0 k l = splitX c l
  | 0, l, h => by
    rw [splitX_none (List.count_eq_zero.1 h)]; rfl
  | k + 1, l, h => by
    obtain ⟨x, r, rfl, hx⟩ := first_byte (List.count_pos_iff.1 (by omega : 0 < l.count c))
    have h2 : r.count c = k := by
      rw [List.count_append, List.count_eq_zero.2 hx, List.count_cons_self] at h; omega
    have e : Lib.index (x ++ c :: r) [c] = (x.length : Int) := by rw [Lib.index_one, indexByte_at hx]
    rw [Lib.splitK, e, if_neg (by simp), splitX_app hx]
    have e2 : ((x.length : Int)).toNat = x.length := by omega
    rw [e2, Nat.add_zero, List.take_left', ← splitK_one c k r h2]
    · congr 2
      rw [List.length_singleton, ← List.drop_drop, List.drop_left]
      rfl
    · rfl
theorem bs_toList (s : ByteArray) : s = bs s.data.toList := rfl
def strsX (ls : List (List UInt8)) : List Value := ls.map fun x => .string (bs x)
theorem i.split_m (s : List UInt8) (c : UInt8) (m : Int) (w : World) (hs : s.length ≤ 1048576) (hm : w.cell? ⟨0, 0, none⟩ = some (.int .i64 m)) :
    Calls Tryz.prog 47 #[.string (bs s), .string ⟨#[c]⟩] w fun e w' => e = .returned (.slice (some ⟨w.heap.size, 0, none⟩) (splitX c s).length (splitX c s).length) ∧ w' = w.alloc (.cells (strsX (splitX c s)).toArray 9) := by
  have hc : Lib.countB (bs s) ⟨#[c]⟩ = s.count c := by
    show Lib.count (bs s).data.toList [c] = _
    rw [Lib.count_one]
    rfl
  have hd : (Lib.splitB ⟨#[c]⟩ 0 (s.count c) (bs s)).map (·.data.toList) = splitX c s := by
    rw [Lib.splitB_data]
    exact splitK_one c _ s rfl
  have hv : (Lib.splitB ⟨#[c]⟩ 0 (s.count c) (bs s)).map Value.string = strsX (splitX c s) := by
    rw [← hd, strsX, List.map_map]
    rfl
  refine (strings_Split (bs s) ⟨#[c]⟩ m w (by rw [bsz]; omega) hm (by show 1 ≤ 1; omega)).mono fun e w' ⟨h1, h2⟩ => ?_
  rw [hc] at h1 h2
  rw [hv] at h2
  rw [splitX_count]
  exact ⟨h1, h2⟩
end Go.Proofs.YtnokilofcdbjhaaGreatDoor
