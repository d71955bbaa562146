/- Lists of items as the laws hand them about; one mark of an item in memory of the call's own. -/
import Derived.Test.YtmckompikbechaaOY
import Derived.Test.YtmckompikbechaaOP
namespace Go.Proofs.Ytmckompikbechaa
open Go.RowKit Go.Sort
set_option linter.unusedVariables false

theorem cntIt_wt (xs : List ItD) : kdItS.cnt xs ≤ kdItS.wt xs := by
  have h : kdItS.cnt xs ≤ 1 * kdItS.wt xs := cntL_le kdItem 1 (fun x => by
    have e1 : kdItem.cnt x = kdSS.cnt x.1 + (kdL.cnt x.2.1 + 1) := rfl
    have e2 : kdSS.cnt x.1 ≤ 1 * kdSS.wt x.1 := cntL_le kdS 1 (fun y => by have : kdS.cnt y = 1 := rfl; omega) x.1
    have e3 : kdL.cnt x.2.1 = x.2.1.length := cntL_int _
    have e4 : kdL.wt x.2.1 = x.2.1.length := wtL_int _
    rw [kdItem.wt_eq]
    omega) xs
  omega
def kIt : Kind (List ItD) where
  rd w v d := ∃ vs, v = kdItS.val vs ∧ kdItS.rd w w.heap.size vs d
  fr w lo hi v d := ∃ vs fp, v = kdItS.val vs ∧ kdItS.own w vs d fp ∧ (∀ i ∈ fp, lo ≤ i ∧ i < hi)
  ok d := kdItS.wt d ≤ 1048576
  mrk := kdItS.mrk
  cnt := kdItS.cnt
  rd_ext := by
    rintro w w' v d ⟨vs, rfl, h⟩ hx
    exact ⟨vs, rfl, kdItS.rd_more (kdItS.rd_ext h hx (Nat.le_refl _)) hx.size⟩
  fr_rd := by
    rintro w lo hi v d ⟨vs, fp, rfl, h, _⟩
    exact ⟨vs, rfl, kdItS.own_rd h⟩
  fr_tch := by
    rintro w w' lo hi lo' hi' v d ⟨vs, fp, rfl, h, hf⟩ k hd
    refine ⟨vs, fp, rfl, kdItS.own_keep h (fun i hi' => k.block i (kdItS.own_lt h i hi') ?_), hf⟩
    have := hf i hi'
    omega
  ok_cnt := fun {d} h => Nat.le_trans (Nat.le_trans (cntIt_wt d) h) (by decide)
theorem kIt.to : ToC Try.prog kIt 15 := by
  rintro w v d ⟨vs, rfl, h⟩ hn
  refine (kdItS.to_ _ _ d h hn).mono ?_
  rintro e w' ⟨vs', fp, rfl, ho, hf, hx⟩
  exact ⟨_, rfl, ⟨vs', fp, rfl, ho, fun i hi => ⟨hf i hi, kdItS.own_lt ho i hi⟩⟩, hx⟩
theorem kIt.eq : EqC Try.prog kIt 18 := by
  rintro w v v' d ⟨vs, rfl, h⟩ ⟨vs', rfl, h'⟩ hn
  exact kdItS.eq_ _ _ _ d h h' hn
theorem kIt.mark : MarkC Try.prog kIt 19 := by
  rintro w lo hi v d k ⟨vs, fp, rfl, h, hf⟩ hn hk0 hk1
  refine (kdItS.mark _ _ d fp k h hn hk0 (by have := cntIt_wt d; have : kdItS.wt d ≤ 1048576 := hn; omega)).mono ?_
  rintro e w' ⟨rfl, ho, hg⟩
  exact ⟨rfl, ⟨vs, fp, rfl, ho, hf⟩, TchF.tch hg hf⟩
theorem kIt.held : HeldC Try.prog kIt 62 := by
  rintro w v d k ⟨vs, rfl, h⟩ hn hk0 hk1
  exact kdItS.held _ _ d k h hn hk0 (by have := cntIt_wt d; have : kdItS.wt d ≤ 1048576 := hn; omega)
theorem kIt.fr_nil (w : World) (lo hi : Nat) : kIt.fr w lo hi (.slice none 0 0) [] := ⟨[.slice none 0 0], [], rfl, ⟨none, 0, rfl, LO.none_⟩, by simp⟩
theorem kSm.held : HeldC Try.prog kSm 21 := by
  rintro w v d k ⟨vs, rfl, h⟩ hn hk0 hk1
  exact kdSh.held _ _ d k h hn hk0 (by have := cntSh_wt d; have : kdSh.wt d ≤ 1048576 := hn; omega)

/-- One mark of an item in a list of the call's own: where it lies, and what a store there leaves. -/
theorem LO.spotI {e : TypeId} {w : World} {A : Option Addr} {c : Nat} {xs : List ItD} {fp : List Nat} (h : LO kdItem e w A c xs fp) (k : Nat) (x : ItD) (hx : xs[k]? = some x) (j : Nat) (hj : j < x.2.1.length) :
    ∃ g A1 c1 gx c2, A = some ⟨g, 0, none⟩ ∧ g ∈ fp ∧ gx ∈ fp ∧ gx ≠ g ∧ w.cell? ⟨g, k * 3, none⟩ = some (.slice A1 x.1.length c1) ∧ w.cell? ⟨g, k * 3 + 1, none⟩ = some (.slice (some ⟨gx, 0, none⟩) x.2.1.length c2) ∧ w.cell? ⟨g, k * 3 + 2, none⟩ = some (.bool x.2.2) ∧ x.2.1.length ≤ c2 ∧ c2 ≤ 9223372036854775807 ∧
      w.cell? ⟨gx, j, none⟩ = some (.int .i64 (x.2.1.getD j 0)) ∧ w.frozen? ⟨gx, j, none⟩ = false ∧ ∀ z, LO kdItem e (w.setCell ⟨gx, j, none⟩ (.int .i64 z)) A c (xs.set k (x.1, x.2.1.set j z, x.2.2)) fp := by
  obtain ⟨g, cs, f, hat⟩ := h.at_ k x hx
  obtain ⟨v1, v2, f1, f2, hcs0, ⟨A1, c1, rfl, l1⟩, ⟨v3, v4, f3, f4, rfl, ⟨A2, c2, rfl, l2⟩, ⟨h4, rfl⟩, hf2, _⟩, hf, hnd⟩ := hat.own
  have h4 : v4 = [.bool x.2.2] := h4
  subst h4
  simp only [List.append_nil] at hf2
  subst hf2
  have hcs0 : cs = [.slice A1 x.1.length c1, .slice A2 x.2.1.length c2, .bool x.2.2] := hcs0
  subst hcs0
  subst hf
  obtain ⟨o2, hf2⟩ := l2.own
  obtain ⟨gx, rfl, _, _, hc⟩ := o2.pos (by omega)
  have hm : gx ∈ f2 := by rw [hf2]; simp
  have hdj : ∀ i ∈ f1, i ∉ f2 := by rw [List.nodup_append] at hnd; exact fun i hi hi' => hnd.2.2 i hi i hi' rfl
  refine ⟨g, A1, c1, gx, c2, hat.addr, hat.mem, (hat.sub gx (List.mem_append_right _ hm)).1, (hat.sub gx (List.mem_append_right _ hm)).2, hat.cell 0 _ rfl, hat.cell 1 _ rfl, hat.cell 2 _ rfl, hc, o2.capm, o2.cell j hj, o2.free j, fun z => ?_⟩
  refine hat.inplace _ _ ?_ ((TchF.set1 w _ _ hm).more (fun i hi => List.mem_append_right _ hi))
  have o3 := (o2.set j z).lo_
  have l1' : LO kdS 9 (w.setCell ⟨gx, j, none⟩ (.int .i64 z)) A1 c1 x.1 f1 := l1.keep (fun i hi => Below.heap_setCell _ _ _ _ (fun (e : i = gx) => hdj i hi (e ▸ hm)))
  have ho := kdItem.mkOwn (d := (x.1, x.2.1.set j z, x.2.2)) l1' (by rw [hf2]; exact o3) hdj
  simpa using ho
end Go.Proofs.Ytmckompikbechaa
