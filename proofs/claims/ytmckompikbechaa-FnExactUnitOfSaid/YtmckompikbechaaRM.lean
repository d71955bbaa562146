/- Elements marked. -/
import Derived.Test.YtmckompikbechaaRA
namespace Go.Proofs.Ytmckompikbechaa
open Go.RowKit Go.Sort
set_option linter.unusedVariables false

set_option maxRecDepth 100000 in
set_option maxHeartbeats 2000000 in
theorem kdElS.mark : MarkD Try.prog kdElS 108 := by
  rintro w vs d fp k ⟨A, c, rfl, h⟩ hn hk0 hk1
  have hwt : wtL kdEl d ≤ 1048576 := hn
  have hlen := wtL_len kdEl d
  have HD := hide h
  have hcap := h.cap.1
  have hcm := h.cap.2
  clear h hn
  show Calls _ _ #[.slice A d.length c, .int .i64 k] _ _
  have hcn : ((kdElS.cnt d : Nat) : Int) = (cntL kdEl d : Nat) := rfl
  rw [hcn] at hk1 ⊢
  obtain ⟨n, hnd⟩ : ∃ n, Hid (d.length = n) := ⟨_, rfl⟩
  rw [hnd.out] at hlen hcap ⊢
  have hn : n ≤ 1048576 := by omega
  have HW := hide hwt
  clear hwt hlen hcn
  go_enter Try.func108, Try.ntmps108
  go_wp2
  go_loopw [1, 5] (fun q i wr => ∃ (j : Nat), j ≤ n ∧ i = .int .i64 j ∧ q = .int .i64 (k + (cntL kdEl (d.take j) : Nat)) ∧ LO kdEl 109 wr A c (mkd kdEl k d j) fp ∧ TchF fp w wr) (fun _ i _ => n - (intOf i).toNat)
  case atStart => exact ⟨0, Nat.zero_le _, rfl, by show _ = Value.int .i64 (k + ((0 : Nat) : Int)); simp, HD.out, TchF.refl _ _⟩
  case round =>
    obtain ⟨j, hj, rfl, rfl, hlo, ht⟩ := hrel
    have HLO := hide hlo
    have HT := hide ht
    clear hlo ht
    by_cases hlt : j < n
    · obtain ⟨x, hxj⟩ : ∃ x, Hid (d[j]? = some x) := ⟨_, List.getElem?_eq_getElem (by rw [hnd.out]; exact hlt)⟩
      have hca := cntL_at kdEl d j x hxj.out
      have hcs := hide (cntL_succ kdEl d j x hxj.out)
      have hms := hide (mkd_set kdEl k d j x hxj.out)
      obtain ⟨C, hC⟩ : ∃ C : Nat, Hid (cntL kdEl (d.take j) = C) := ⟨_, rfl⟩
      rw [hC.out] at hca hcs hms ⊢
      obtain ⟨C9, hC9⟩ : ∃ C : Nat, Hid (cntL kdEl d = C) := ⟨_, rfl⟩
      rw [hC9.out] at hca hk1
      have hcx : kdEl.cnt x = 4 := rfl
      rw [hcx] at hca hcs
      clear hcx
      obtain ⟨r0, r1, r2, r3⟩ := x
      obtain ⟨g, cs, f, rfl, own, sub, mem, glt, cell, free, put⟩ := HLO.out.put j (r0, r1, r2, r3) (mkd_at kdEl k d j _ hxj.out)
      obtain ⟨rfl, hxl⟩ := kdEl.open_ (kdEl.own_rd own)
      obtain rfl := kdEl.own_nil own
      have q0 : wr.cell? ⟨g, j * 4, none⟩ = some (.string (bs r0)) := cell 0 _ rfl
      have q1 : wr.cell? ⟨g, j * 4 + 1, none⟩ = some (.int .i64 r1) := cell 1 _ rfl
      have q2 : wr.cell? ⟨g, j * 4 + 2, none⟩ = some (.int .i64 r2) := cell 2 _ rfl
      have q3 : wr.cell? ⟨g, j * 4 + 3, none⟩ = some (.int .i64 r3) := cell 3 _ rfl
      have qf := free
      have hxl : r0.length ≤ 9223372036854775807 := hxl
      obtain ⟨Kn, hKn⟩ : ∃ Kn : Nat, k + (C : Int) = Kn := ⟨(k + C).toNat, by omega⟩
      rw [hKn] at hms ⊢
      have hKb : Kn ≤ 8589934592 := by omega
      have MT := hide (l.markText_any Kn wr hKb)
      have ML := markT_len (Kn : Int) (by omega)
      have hmr : kdEl.mrk (Kn : Int) (r0, r1, r2, r3) = (markT (Kn : Int), (Kn : Int) + 1, (Kn : Int) + 1 + 1, (Kn : Int) + 1 + 1 + 1) := rfl
      rw [hmr] at hms
      clear hmr
      generalize hmt : markT (Kn : Int) = mt at *
      have HPUT : Hid (∀ w2, Ext wr w2 → LO kdEl 109 ((((w2.setCell ⟨g, j * 4, none⟩ (.string (bs mt))).setCell ⟨g, j * 4 + 1, none⟩ (.int .i64 ((Kn : Int) + 1))).setCell ⟨g, j * 4 + 2, none⟩ (.int .i64 ((Kn : Int) + 1 + 1))).setCell ⟨g, j * 4 + 3, none⟩ (.int .i64 ((Kn : Int) + 1 + 1 + 1))) (some ⟨g, 0, none⟩) c (mkd kdEl k d (j + 1)) fp) := by
        intro w2 x2
        have L1 := put w2 0 (.string (bs mt)) (mt, r1, r2, r3) (by decide) (kdEl.mkOwn _ (mt, r1, r2, r3) (by show mt.length ≤ _; omega)) (TchF.of_ext x2)
        obtain ⟨g', cs', f', e1, own2, _, _, _, _, _, put2⟩ := L1.put j (mt, r1, r2, r3) (by rw [List.getElem?_set, if_pos rfl, if_pos (by rw [mkd_len, hnd.out]; exact hlt)])
        simp only [Option.some.injEq, Addr.mk.injEq, and_true] at e1
        subst e1
        obtain ⟨rfl, _⟩ := kdEl.open_ (kdEl.own_rd own2)
        obtain rfl := kdEl.own_nil own2
        have L2 := put2 _ 1 (.int .i64 ((Kn : Int) + 1)) (mt, (Kn : Int) + 1, r2, r3) (by decide) (kdEl.mkOwn _ (mt, (Kn : Int) + 1, r2, r3) (by show mt.length ≤ _; omega)) (TchF.refl _ _)
        rw [List.set_set] at L2
        obtain ⟨g', cs', f', e1, own3, _, _, _, _, _, put3⟩ := L2.put j (mt, (Kn : Int) + 1, r2, r3) (by rw [List.getElem?_set, if_pos rfl, if_pos (by rw [mkd_len, hnd.out]; exact hlt)])
        simp only [Option.some.injEq, Addr.mk.injEq, and_true] at e1
        subst e1
        obtain ⟨rfl, _⟩ := kdEl.open_ (kdEl.own_rd own3)
        obtain rfl := kdEl.own_nil own3
        have L3 := put3 _ 2 (.int .i64 ((Kn : Int) + 1 + 1)) (mt, (Kn : Int) + 1, (Kn : Int) + 1 + 1, r3) (by decide) (kdEl.mkOwn _ (mt, (Kn : Int) + 1, (Kn : Int) + 1 + 1, r3) (by show mt.length ≤ _; omega)) (TchF.refl _ _)
        rw [List.set_set] at L3
        obtain ⟨g', cs', f', e1, own4, _, _, _, _, _, put4⟩ := L3.put j (mt, (Kn : Int) + 1, (Kn : Int) + 1 + 1, r3) (by rw [List.getElem?_set, if_pos rfl, if_pos (by rw [mkd_len, hnd.out]; exact hlt)])
        simp only [Option.some.injEq, Addr.mk.injEq, and_true] at e1
        subst e1
        obtain ⟨rfl, _⟩ := kdEl.open_ (kdEl.own_rd own4)
        obtain rfl := kdEl.own_nil own4
        have L4 := put4 _ 3 (.int .i64 ((Kn : Int) + 1 + 1 + 1)) (mt, (Kn : Int) + 1, (Kn : Int) + 1 + 1, (Kn : Int) + 1 + 1 + 1) (by decide) (kdEl.mkOwn _ (mt, (Kn : Int) + 1, (Kn : Int) + 1 + 1, (Kn : Int) + 1 + 1 + 1) (by show mt.length ≤ _; omega)) (TchF.refl _ _)
        rw [List.set_set] at L4
        rw [hms.out] at L4
        exact L4
      clear put own cell free sub
      go_wp2_with fail
      refine MT.out.mono ?_
      rintro e w2 ⟨rfl, x2⟩
      have p0 : w2.cell? ⟨g, j * 4, none⟩ = some (.string (bs r0)) := by rw [x2.cell glt]; exact q0
      have p1 : w2.cell? ⟨g, j * 4 + 1, none⟩ = some (.int .i64 r1) := by rw [x2.cell glt]; exact q1
      have p2 : w2.cell? ⟨g, j * 4 + 2, none⟩ = some (.int .i64 r2) := by rw [x2.cell glt]; exact q2
      have p3 : w2.cell? ⟨g, j * 4 + 3, none⟩ = some (.int .i64 r3) := by rw [x2.cell glt]; exact q3
      have pf : ∀ i, w2.frozen? ⟨g, i, none⟩ = false := fun i => by rw [World.frozen?_of_block (w := wr) (x2.block g glt)]; exact qf i
      have X2 := hide x2
      clear x2 q0 q1 q2 q3 qf MT
      go_wp2
      go_roundw
      case rel =>
        exact ⟨j + 1, by omega, by go_num, by rw [hcs.out]; exact congrArg (Value.int .i64) (by omega), HPUT.out w2 X2.out, ((((HT.out.trans (TchF.of_ext X2.out)).trans (TchF.set1 _ _ _ mem)).trans (TchF.set1 _ _ _ mem)).trans (TchF.set1 _ _ _ mem)).trans (TchF.set1 _ _ _ mem)⟩
      case measure => simp [intOf]; omega
    · go_wp2
      go_ret
      have ht : d.take j = d := List.take_of_length_le (by rw [hnd.out]; omega)
      refine ⟨ret_int (by rw [ht]), ⟨A, c, ?_, ?_⟩, HT.out⟩
      · show [Value.slice A n c] = [Value.slice A (mrkL kdEl k d).length c]
        rw [mrkL_len, hnd.out]
      · have := HLO.out
        rwa [mkd_all kdEl k d j (by rw [hnd.out]; exact hlt)] at this
end Go.Proofs.Ytmckompikbechaa
