/- Codes: as a kind; weighed, copied, compared, marked. -/
import Derived.Test.YtmckompikbechaaRM
import Derived.Test.YtmckompikbechaaOP
namespace Go.Proofs.Ytmckompikbechaa
open Go.RowKit Go.Sort
set_option linter.unusedVariables false

abbrev CoD := List ElD × List Int × Int × Int × Int × Int
def kdCo : Kd CoD := kdPair kdElS (kdPair kdL (kdPair kdNum (kdPair kdNum (kdPair kdNum kdNum))))
theorem kdCo.open_ {w : World} {B : Nat} {vs : List Value} {d : CoD} (h : kdCo.rd w B vs d) : ∃ A c A' c', vs = [.slice A d.1.length c, .slice A' d.2.1.length c', .int .i64 d.2.2.1, .int .i64 d.2.2.2.1, .int .i64 d.2.2.2.2.1, .int .i64 d.2.2.2.2.2] ∧ LR kdEl w B A c d.1 ∧ LR kdInt w B A' c' d.2.1 := by
  obtain ⟨v1, v2, rfl, ⟨A, c, rfl, h1⟩, v3, v4, rfl, ⟨A', c', rfl, h2⟩, v5, v6, rfl, h3, v7, v8, rfl, h4, v9, v10, rfl, h5, h6⟩ := h
  have h3 : v5 = [.int .i64 d.2.2.1] := h3
  have h4 : v7 = [.int .i64 d.2.2.2.1] := h4
  have h5 : v9 = [.int .i64 d.2.2.2.2.1] := h5
  have h6 : v10 = [.int .i64 d.2.2.2.2.2] := h6
  subst h3 h4 h5 h6
  exact ⟨A, c, A', c', rfl, h1, h2⟩
theorem kdCo.mk_ {w : World} {B : Nat} {d : CoD} {A A' : Option Addr} {c c' : Nat} (h1 : LR kdEl w B A c d.1) (h2 : LR kdInt w B A' c' d.2.1) : kdCo.rd w B [.slice A d.1.length c, .slice A' d.2.1.length c', .int .i64 d.2.2.1, .int .i64 d.2.2.2.1, .int .i64 d.2.2.2.2.1, .int .i64 d.2.2.2.2.2] d :=
  ⟨[.slice A d.1.length c], _, rfl, ⟨A, c, rfl, h1⟩, [.slice A' d.2.1.length c'], _, rfl, ⟨A', c', rfl, h2⟩, [.int .i64 d.2.2.1], _, rfl, rfl, [.int .i64 d.2.2.2.1], _, rfl, rfl, [.int .i64 d.2.2.2.2.1], _, rfl, rfl, rfl⟩
theorem kdCo.mkOwn {w : World} {d : CoD} {A A' : Option Addr} {c c' : Nat} {f1 f2 : List Nat} (h1 : LO kdEl 109 w A c d.1 f1) (h2 : LO kdInt 3 w A' c' d.2.1 f2) (hd : ∀ i ∈ f1, i ∉ f2) : kdCo.own w [.slice A d.1.length c, .slice A' d.2.1.length c', .int .i64 d.2.2.1, .int .i64 d.2.2.2.1, .int .i64 d.2.2.2.2.1, .int .i64 d.2.2.2.2.2] d (f1 ++ f2) := by
  have hnd : (f1 ++ f2).Nodup := by
    rw [List.nodup_append]
    exact ⟨h1.nodup, h2.nodup, fun a ha b hb e => hd a ha (e ▸ hb)⟩
  exact ⟨[.slice A d.1.length c], _, f1, f2, rfl, ⟨A, c, rfl, h1⟩, ⟨[.slice A' d.2.1.length c'], _, f2, [], rfl, ⟨A', c', rfl, h2⟩, ⟨[.int .i64 d.2.2.1], _, [], [], rfl, ⟨rfl, rfl⟩, ⟨[.int .i64 d.2.2.2.1], _, [], [], rfl, ⟨rfl, rfl⟩, ⟨[.int .i64 d.2.2.2.2.1], _, [], [], rfl, ⟨rfl, rfl⟩, ⟨rfl, rfl⟩, rfl, by simp⟩, rfl, by simp⟩, rfl, by simp⟩, by simp, h2.nodup⟩, rfl, hnd⟩
theorem kdCo.val6 (a b c d e f : Value) : kdCo.val [a, b, c, d, e, f] = .agg #[a, b, c, d, e, f] := rfl
theorem kdCo.wt_eq (d : CoD) : kdCo.wt d = kdElS.wt d.1 + kdL.wt d.2.1 := by
  show kdElS.wt d.1 + (kdL.wt d.2.1 + (0 + (0 + (0 + 0)))) = _
  omega
theorem kdCo.cnt_eq (d : CoD) : kdCo.cnt d = kdElS.cnt d.1 + kdL.cnt d.2.1 := by
  show kdElS.cnt d.1 + (kdL.cnt d.2.1 + (0 + (0 + (0 + 0)))) = _
  omega

set_option maxRecDepth 100000 in
set_option maxHeartbeats 1000000 in
theorem kdCo.sz : SzD Try.prog kdCo 29 := by
  rintro w vs ⟨d1, d2, r, b, p, f⟩ l h hl0 hl1
  obtain ⟨A, c, A', c', rfl, h1, h2⟩ := kdCo.open_ h
  have H1 := hide h1
  have H2 := hide h2
  clear h h1 h2
  rw [kdCo.val6, kdCo.wt_eq]
  dsimp only at *
  obtain ⟨W1, hW1⟩ : ∃ W1, Hid (kdElS.wt d1 = W1) := ⟨_, rfl⟩
  obtain ⟨W2, hW2⟩ : ∃ W2, Hid (kdL.wt d2 = W2) := ⟨_, rfl⟩
  rw [hW1.out, hW2.out]
  obtain ⟨n, hn⟩ : ∃ n, Hid (d1.length = n) := ⟨_, rfl⟩
  obtain ⟨n', hn'⟩ : ∃ n', Hid (d2.length = n') := ⟨_, rfl⟩
  rw [hn.out, hn'.out]
  have hx0 := hide (Ext.alloc w (.cells #[.slice A n c, .slice A' n' c', .int .i64 r, .int .i64 b, .int .i64 p, .int .i64 f] 53))
  have B0 := hide (Blk.new (w := w) rfl #[.slice A n c, .slice A' n' c', .int .i64 r, .int .i64 b, .int .i64 p, .int .i64 f] 53)
  obtain ⟨R, hR⟩ : ∃ R, Hid ((if ((W1 + W2 : Nat) : Int) ≤ l then l - ((W1 + W2 : Nat) : Int) else -1) = R) := ⟨_, rfl⟩
  rw [hR.out]
  go_enter Try.func29, Try.ntmps29
  go_wp2_with fail
  refine (kdElS.sz _ [.slice A n c] d1 l ⟨A, c, by rw [hn.out], (H1.out.ext hx0.out (Nat.le_refl _)).more hx0.out.size⟩ hl0 hl1).mono ?_
  rintro e w1 ⟨rfl, hx1⟩
  rw [hW1.out]
  have cB := (B0.out.ext hx1).cell
  have X1 := hide (hx0.out.trans hx1)
  clear hx1
  by_cases hle : (W1 : Int) ≤ l
  · rw [if_pos hle]
    generalize hm : l - (W1 : Int) = m
    have hm0 : 0 ≤ m := by omega
    have hm1 : m ≤ 1048576 := by omega
    have HM := hide hm
    clear hm
    go_wp2_with fail
    refine (kdL.sz _ [.slice A' n' c'] d2 m ⟨A', c', by rw [hn'.out], (H2.out.ext X1.out (Nat.le_refl _)).more X1.out.size⟩ hm0 hm1).mono ?_
    rintro e w2 ⟨rfl, hx2⟩
    rw [hW2.out]
    have X2 := hide (X1.out.trans hx2)
    clear hx2
    by_cases hle2 : (W2 : Int) ≤ m
    · rw [if_pos hle2]
      go_wp2
      go_ret
      exact ⟨ret_int (by rw [← hR.out, if_pos (by have := HM.out; omega)]; have := HM.out; omega), X2.out⟩
    · rw [if_neg hle2]
      go_wp2
      go_ret
      exact ⟨ret_int (by rw [← hR.out, if_neg (by have := HM.out; omega)]), X2.out⟩
  · rw [if_neg hle]
    go_wp2
    go_ret
    exact ⟨ret_int (by rw [← hR.out, if_neg (by omega)]), X1.out⟩

set_option maxRecDepth 100000 in
set_option maxHeartbeats 2000000 in
theorem kdCo.to_ : ToD Try.prog kdCo 31 := by
  rintro w vs ⟨d1, d2, r, b, p, f⟩ h hwt
  obtain ⟨A, c, A', c', rfl, h1, h2⟩ := kdCo.open_ h
  have H1 := hide h1
  have H2 := hide h2
  rw [kdCo.wt_eq] at hwt
  dsimp only at *
  have hw1 : kdElS.wt d1 ≤ 1048576 := by omega
  have hw2 : kdL.wt d2 ≤ 1048576 := by omega
  clear h h1 h2 hwt
  rw [kdCo.val6]
  obtain ⟨n, hn⟩ : ∃ n, Hid (d1.length = n) := ⟨_, rfl⟩
  obtain ⟨n', hn'⟩ : ∃ n', Hid (d2.length = n') := ⟨_, rfl⟩
  rw [hn.out, hn'.out]
  obtain ⟨W0, hW0⟩ : ∃ W0, Hid (W0 = ((w.alloc (.cells #[.slice A n c, .slice A' n' c', .int .i64 r, .int .i64 b, .int .i64 p, .int .i64 f] 53)).alloc (.cells #[.slice none 0 0, .slice none 0 0, .int .i64 0, .int .i64 0, .int .i64 0, .int .i64 0] 59)).alloc (.cells #[.slice none 0 0, .slice none 0 0, .int .i64 0, .int .i64 0, .int .i64 0, .int .i64 0] 59)) := ⟨_, rfl⟩
  have X0 : Hid (Ext w W0) := by rw [hW0.out]; exact ((Ext.alloc w _).trans (Ext.alloc _ _)).trans (Ext.alloc _ _)
  have B1 : Hid (Blk W0 w.heap.size #[.slice A n c, .slice A' n' c', .int .i64 r, .int .i64 b, .int .i64 p, .int .i64 f] 53) := by rw [hW0.out]; exact ((Blk.new rfl _ _).alloc _).alloc _
  have B2 : Hid (Blk W0 (w.heap.size + 1) #[.slice none 0 0, .slice none 0 0, .int .i64 0, .int .i64 0, .int .i64 0, .int .i64 0] 59) := by rw [hW0.out]; exact (Blk.new (by simp) _ _).alloc _
  have B3 : Hid (Blk W0 (w.heap.size + 1 + 1) #[.slice none 0 0, .slice none 0 0, .int .i64 0, .int .i64 0, .int .i64 0, .int .i64 0] 59) := by rw [hW0.out]; exact Blk.new (by simp) _ _
  have S0 : Hid (w.heap.size + 1 + 1 < W0.heap.size) := B3.out.lt
  go_enter Try.func31, Try.ntmps31
  go_wp2_with fail
  rw [← hW0.out]
  refine (kdElS.to_ _ [.slice A n c] d1 ⟨A, c, by rw [hn.out], (H1.out.ext X0.out (Nat.le_refl _)).more X0.out.size⟩ hw1).mono ?_
  rintro e w1 ⟨vs1, fp1, rfl, ho1, hf1, hx1⟩
  obtain ⟨A1, c1, rfl, hl1⟩ := ho1
  rw [show kdElS.val [Value.slice A1 d1.length c1] = .slice A1 d1.length c1 from rfl, hn.out]
  replace B1 := hide (B1.out.ext hx1)
  replace B2 := hide (B2.out.ext hx1)
  replace B3 := hide (B3.out.ext hx1)
  have X1 := hide (X0.out.trans hx1)
  have HL1 := hide hl1
  have HF1 := hide hf1
  clear hx1 hl1 hf1 hW0
  have c1_ := B1.out.cell; have c3_ := B3.out.cell; have f3_ := B3.out.free
  go_wp2_with fail
  generalize hW1 : w1.setCell ⟨w.heap.size + 1 + 1, 0, none⟩ (.slice A1 n c1) = W1
  have X1' : Hid (Ext w W1) := by rw [← hW1]; exact Below.setCell X1.out (by simp <;> omega) _
  have HL1' : Hid (LO kdEl 109 W1 A1 c1 d1 fp1) := by rw [← hW1]; exact HL1.out.keep (fun i hi => Below.heap_setCell _ _ _ _ (by have := HF1.out i hi; have := S0.out; simp; omega))
  replace B1 : Hid _ := hide (show Blk W1 _ _ _ by rw [← hW1]; exact B1.out.far (by simp <;> omega) _)
  replace B2 : Hid _ := hide (show Blk W1 _ _ _ by rw [← hW1]; exact B2.out.far (by simp) _)
  replace B3 : Hid _ := hide (show Blk W1 _ _ _ by rw [← hW1]; exact B3.out.set 0 _)
  have SW := hide B3.out.lt
  clear hW1 c1_ c3_ f3_
  refine (kdL.to_ _ [.slice A' n' c'] d2 ⟨A', c', by rw [hn'.out], (H2.out.ext X1'.out (Nat.le_refl _)).more X1'.out.size⟩ hw2).mono ?_
  rintro e w2 ⟨vs2, fp2, rfl, ho2, hf2, hx2⟩
  obtain ⟨A2, c2, rfl, hl2⟩ := ho2
  rw [kdL.val1, hn'.out]
  replace B1 := hide (B1.out.ext hx2)
  replace B2 := hide (B2.out.ext hx2)
  replace B3 := hide (B3.out.ext hx2)
  have X2 := hide (X1'.out.trans hx2)
  have HL1'' := hide (HL1'.out.ext hx2)
  have HL2 := hide hl2
  have HF2 := hide hf2
  have HLt := hide HL1'.out.lt
  clear hx2 hl2 hf2
  have c1_ := B1.out.cell
  have c3_ := B3.out.cell; have f3_ := B3.out.free
  have c2_ := B2.out.cell; have f2_ := B2.out.free
  go_wp2
  refine bodyPost_ret (v := .agg #[.slice A1 n c1, .slice A2 n' c2, .int .i64 r, .int .i64 b, .int .i64 p, .int .i64 f]) (by simp [results, Try.results31, go_sem, c2_]) rfl ?_
  have hf1 : ∀ i ∈ fp1, w.heap.size + 1 + 1 < i := fun i hi => by have := HF1.out i hi; have := S0.out; omega
  have hf2 : ∀ i ∈ fp2, w.heap.size + 1 + 1 < i := fun i hi => by have := HF2.out i hi; have := SW.out; omega
  have hd : ∀ i ∈ fp1, i ∉ fp2 := fun i hi hi' => by have := HLt.out i hi; have := HF2.out i hi'; omega
  have mk : ∀ w' : World, (∀ i, w.heap.size + 1 + 1 < i → w'.heap[i]? = w2.heap[i]?) → kdCo.own w' [.slice A1 n c1, .slice A2 n' c2, .int .i64 r, .int .i64 b, .int .i64 p, .int .i64 f] (d1, d2, r, b, p, f) (fp1 ++ fp2) := by
    intro w' hw
    have h9 := kdCo.mkOwn (d := (d1, d2, r, b, p, f)) (HL1''.out.keep (fun i hi => hw i (hf1 i hi))) (HL2.out.keep (fun i hi => hw i (hf2 i hi))) hd
    dsimp only at h9
    rwa [hn.out, hn'.out] at h9
  refine ⟨[.slice A1 n c1, .slice A2 n' c2, .int .i64 r, .int .i64 b, .int .i64 p, .int .i64 f], fp1 ++ fp2, rfl, mk _ ?_, ?_, ?_⟩
  · intro i hi
    repeat rw [Below.heap_setCell _ _ _ _ (by simp; omega)]
  · intro i hi
    rcases List.mem_append.1 hi with h | h
    · have := hf1 i h; omega
    · have := hf2 i h; omega
  · repeat (refine Below.setCell ?_ (by simp <;> omega) _)
    exact X2.out

set_option maxRecDepth 100000 in
set_option maxHeartbeats 1000000 in
theorem kdCo.eq_ : EqD Try.prog kdCo 33 := by
  rintro w vs vs' ⟨d1, d2, r, b, p, f⟩ h h' hwt
  obtain ⟨A, c, A', c', rfl, h1, h2⟩ := kdCo.open_ h
  obtain ⟨D, e, D', e', rfl, h3, h4⟩ := kdCo.open_ h'
  have H1 := hide h1
  have H2 := hide h2
  have H3 := hide h3
  have H4 := hide h4
  rw [kdCo.wt_eq] at hwt
  dsimp only at *
  have hw1 : kdElS.wt d1 ≤ 1048576 := by omega
  have hw2 : kdL.wt d2 ≤ 1048576 := by omega
  clear h h1 h2 h' h3 h4 hwt
  rw [kdCo.val6, kdCo.val6]
  obtain ⟨n, hn⟩ : ∃ n, Hid (d1.length = n) := ⟨_, rfl⟩
  obtain ⟨n', hn'⟩ : ∃ n', Hid (d2.length = n') := ⟨_, rfl⟩
  rw [hn.out, hn'.out]
  have e1 : (r != r) = false := by simp
  have e2 : (b != b) = false := by simp
  have e3 : (p != p) = false := by simp
  have e4 : (f != f) = false := by simp
  obtain ⟨W0, hW0⟩ : ∃ W0, Hid (W0 = (w.alloc (.cells #[.slice A n c, .slice A' n' c', .int .i64 r, .int .i64 b, .int .i64 p, .int .i64 f] 59)).alloc (.cells #[.slice D n e, .slice D' n' e', .int .i64 r, .int .i64 b, .int .i64 p, .int .i64 f] 59)) := ⟨_, rfl⟩
  have X0 : Hid (Ext w W0) := by rw [hW0.out]; exact (Ext.alloc w _).trans (Ext.alloc _ _)
  have B1 := hide (show Blk W0 w.heap.size #[.slice A n c, .slice A' n' c', .int .i64 r, .int .i64 b, .int .i64 p, .int .i64 f] 59 by rw [hW0.out]; exact (Blk.new rfl _ _).alloc _)
  have B2 := hide (show Blk W0 (w.heap.size + 1) #[.slice D n e, .slice D' n' e', .int .i64 r, .int .i64 b, .int .i64 p, .int .i64 f] 59 by rw [hW0.out]; exact Blk.new (by simp) _ _)
  go_enter Try.func33, Try.ntmps33
  go_wp2_with fail
  rw [← hW0.out]
  clear hW0
  refine (kdElS.eq_ _ [.slice A n c] [.slice D n e] d1 ⟨A, c, by rw [hn.out], (H1.out.ext X0.out (Nat.le_refl _)).more X0.out.size⟩ ⟨D, e, by rw [hn.out], (H3.out.ext X0.out (Nat.le_refl _)).more X0.out.size⟩ hw1).mono ?_
  rintro e1 w1 ⟨rfl, hx1⟩
  have c1_ := (B1.out.ext hx1).cell; have c2_ := (B2.out.ext hx1).cell
  have X1 := hide (X0.out.trans hx1)
  replace B1 := hide (B1.out.ext hx1)
  replace B2 := hide (B2.out.ext hx1)
  clear hx1
  go_wp2_with fail
  clear c1_ c2_
  refine (kdL.eq_ _ [.slice A' n' c'] [.slice D' n' e'] d2 ⟨A', c', by rw [hn'.out], (H2.out.ext X1.out (Nat.le_refl _)).more X1.out.size⟩ ⟨D', e', by rw [hn'.out], (H4.out.ext X1.out (Nat.le_refl _)).more X1.out.size⟩ hw2).mono ?_
  rintro e1 w2 ⟨rfl, hx2⟩
  have X2 := hide (X1.out.trans hx2)
  have c3_ := (B1.out.ext hx2).cell; have c4_ := (B2.out.ext hx2).cell
  clear hx2
  go_wp2
  go_ret
  exact ⟨rfl, X2.out⟩

set_option maxRecDepth 100000 in
set_option maxHeartbeats 1000000 in
theorem kdCo.mark : MarkD Try.prog kdCo 46 := by
  rintro w vs ⟨d1, d2, r, b, p, f⟩ fp k h hwt hk0 hk1
  have h0 := h
  obtain ⟨v1, v2, f1, f2, hvs, ⟨A, c, rfl, h1⟩, ⟨v3, v4, g1, g2, rfl, ⟨A', c', rfl, h2⟩, ⟨v5, v6, f3, g3, rfl, ⟨h3, e3⟩, ⟨v7, v8, f4, g4, rfl, ⟨h4, e4⟩, ⟨v9, v10, f5, g5, rfl, ⟨h5, e5⟩, ⟨h6, e6⟩, e7, _⟩, e8, _⟩, e9, _⟩, e10, hnd2⟩, hfp, hnd⟩ := h
  have h3 : v5 = [.int .i64 r] := h3
  have h4 : v7 = [.int .i64 b] := h4
  have h5 : v9 = [.int .i64 p] := h5
  have h6 : v10 = [.int .i64 f] := h6
  subst h3 h4 h5 h6
  rw [e3, e4, e5, e6] at *
  subst e7
  subst e8
  subst e9
  simp only [List.append_nil] at e10
  subst e10
  rw [kdCo.wt_eq] at hwt
  rw [kdCo.cnt_eq] at hk1 ⊢
  dsimp only at *
  subst hvs
  have H1 := hide h1
  have H2 := hide h2
  have hw1 : kdElS.wt d1 ≤ 1048576 := by omega
  have hw2 : kdL.wt d2 ≤ 1048576 := by omega
  clear h1 h2 hwt h0
  have hdj : Hid (∀ i ∈ f1, i ∉ f2) := by rw [hfp, List.nodup_append] at hnd; exact fun i hi hi' => hnd.2.2 i hi i hi' rfl
  show Calls _ _ #[.agg #[.slice A d1.length c, .slice A' d2.length c', .int .i64 r, .int .i64 b, .int .i64 p, .int .i64 f], _] _ _
  obtain ⟨n, hn⟩ : ∃ n, Hid (d1.length = n) := ⟨_, rfl⟩
  obtain ⟨n', hn'⟩ : ∃ n', Hid (d2.length = n') := ⟨_, rfl⟩
  rw [hn.out, hn'.out]
  obtain ⟨C1, hC1⟩ : ∃ C1, Hid (kdElS.cnt d1 = C1) := ⟨_, rfl⟩
  obtain ⟨C2, hC2⟩ : ∃ C2, Hid (kdL.cnt d2 = C2) := ⟨_, rfl⟩
  rw [hC1.out, hC2.out] at hk1 ⊢
  have HFP := hide hfp
  have HND := hide hnd
  clear hfp hnd hnd2
  have X0 := hide (Ext.alloc w (.cells #[.slice A n c, .slice A' n' c', .int .i64 r, .int .i64 b, .int .i64 p, .int .i64 f] 59))
  have B1 := hide (Blk.new (w := w) rfl #[.slice A n c, .slice A' n' c', .int .i64 r, .int .i64 b, .int .i64 p, .int .i64 f] 59)
  go_enter Try.func46, Try.ntmps46
  go_wp2_with fail
  refine (kdElS.mark _ [.slice A n c] d1 f1 k ⟨A, c, by rw [hn.out], H1.out.ext X0.out⟩ hw1 hk0 (by rw [hC1.out]; omega)).mono ?_
  rintro e w1 ⟨rfl, ho1, ht1⟩
  rw [hC1.out]
  have B1' := B1.out.tchF ht1 (fun hm => by have := H1.out.lt _ hm; omega)
  have c1_ := B1'.cell
  have H2' := hide ((kdL.own_tchF (show kdL.own _ [.slice A' d2.length c'] d2 f2 from ⟨A', c', rfl, H2.out.ext X0.out⟩) ht1 (fun i hi hi' => hdj.out i hi' hi)))
  have HO1 := hide ho1
  have HT1 := hide ht1
  clear ho1 ht1 B1'
  go_wp2_with fail
  refine (kdL.mark _ [.slice A' n' c'] d2 f2 (k + C1) (by rw [← hn'.out]; exact H2'.out) hw2 (by omega) (by rw [hC2.out]; omega)).mono ?_
  rintro e w2 ⟨rfl, ho2, ht2⟩
  rw [hC2.out]
  have HO2 := hide ho2
  have HT2 := hide ht2
  clear ho2 ht2
  go_wp2
  go_ret
  refine ⟨ret_int (by omega), ⟨[.slice A n c], _, f1, f2, rfl, kdElS.own_tchF HO1.out HT2.out hdj.out, ⟨[.slice A' n' c'], _, f2, [], rfl, ?_, ⟨[.int .i64 r], _, [], [], rfl, ⟨rfl, rfl⟩, ⟨[.int .i64 b], _, [], [], rfl, ⟨rfl, rfl⟩, ⟨[.int .i64 p], _, [], [], rfl, ⟨rfl, rfl⟩, ⟨rfl, rfl⟩, rfl, by simp⟩, rfl, by simp⟩, rfl, by simp⟩, by simp, kdL.own_nodup HO2.out⟩, HFP.out, HND.out⟩, ?_⟩
  · show kdL.own w2 [.slice A' n' c'] (kdL.mrk (k + kdElS.cnt d1) d2) f2
    rw [hC1.out]
    exact HO2.out
  · rw [HFP.out]
    exact ((TchF.of_ext X0.out).trans (HT1.out.more (fun i hi => by simp [hi]))).trans (HT2.out.more (fun i hi => by simp [hi]))

theorem cntCo_wt (d : CoD) : kdCo.cnt d ≤ 4 * kdCo.wt d := by
  have h1 : kdElS.cnt d.1 ≤ 4 * kdElS.wt d.1 := cntL_le kdEl 4 (fun x => by have : kdEl.cnt x = 4 := rfl; omega) d.1
  have h2 : kdL.cnt d.2.1 = d.2.1.length := cntL_int _
  have h3 : kdL.wt d.2.1 = d.2.1.length := wtL_int _
  rw [kdCo.wt_eq, kdCo.cnt_eq]
  omega
/-- Codes, as the laws hand them about. -/
def kC : Kind CoD where
  rd w v d := ∃ vs, v = kdCo.val vs ∧ kdCo.rd w w.heap.size vs d
  fr w lo hi v d := ∃ vs fp, v = kdCo.val vs ∧ kdCo.own w vs d fp ∧ (∀ i ∈ fp, lo ≤ i ∧ i < hi)
  ok d := kdCo.wt d ≤ 1048576
  mrk := kdCo.mrk
  cnt := kdCo.cnt
  rd_ext := by
    rintro w w' v d ⟨vs, rfl, h⟩ hx
    exact ⟨vs, rfl, kdCo.rd_more (kdCo.rd_ext h hx (Nat.le_refl _)) hx.size⟩
  fr_rd := by
    rintro w lo hi v d ⟨vs, fp, rfl, h, _⟩
    exact ⟨vs, rfl, kdCo.own_rd h⟩
  fr_tch := by
    rintro w w' lo hi lo' hi' v d ⟨vs, fp, rfl, h, hf⟩ k hd
    refine ⟨vs, fp, rfl, kdCo.own_keep h (fun i hi' => k.block i (kdCo.own_lt h i hi') ?_), hf⟩
    have := hf i hi'
    omega
  ok_cnt := fun {d} h => by have h1 := cntCo_wt d; have h2 : kdCo.wt d ≤ 1048576 := h; omega
def kC.wt (d : CoD) : Nat := kdCo.wt d
theorem kC.ok_of {d : CoD} (h : ¬ 1048576 < kC.wt d) : kC.ok d := Nat.le_of_not_lt h
theorem kC.lr {w : World} {v : Value} {d : CoD} (h : kC.rd w v d) : ∃ A c A' c', v = .agg #[.slice A d.1.length c, .slice A' d.2.1.length c', .int .i64 d.2.2.1, .int .i64 d.2.2.2.1, .int .i64 d.2.2.2.2.1, .int .i64 d.2.2.2.2.2] ∧ LR kdEl w w.heap.size A c d.1 ∧ LR kdInt w w.heap.size A' c' d.2.1 := by
  obtain ⟨vs, rfl, h⟩ := h
  obtain ⟨A, c, A', c', rfl, h1⟩ := kdCo.open_ h
  exact ⟨A, c, A', c', rfl, h1⟩
theorem kC.shape {w : World} {v : Value} {d : CoD} (h : kC.rd w v d) : ∃ A n c A' n' c' r b p f, v = .agg #[.slice A n c, .slice A' n' c', .int .i64 r, .int .i64 b, .int .i64 p, .int .i64 f] := by
  obtain ⟨A, c, A', c', rfl, _⟩ := kC.lr h
  exact ⟨A, _, c, A', _, c', _, _, _, _, rfl⟩
theorem kC.to : ToC Try.prog kC 31 := by
  rintro w v d ⟨vs, rfl, h⟩ hn
  refine (kdCo.to_ _ _ d h hn).mono ?_
  rintro e w' ⟨vs', fp, rfl, ho, hf, hx⟩
  exact ⟨_, rfl, ⟨vs', fp, rfl, ho, fun i hi => ⟨hf i hi, kdCo.own_lt ho i hi⟩⟩, hx⟩
theorem kC.eq : EqC Try.prog kC 33 := by
  rintro w v v' d ⟨vs, rfl, h⟩ ⟨vs', rfl, h'⟩ hn
  exact kdCo.eq_ _ _ _ d h h' hn
theorem kC.mark : MarkC Try.prog kC 46 := by
  rintro w lo hi v d k ⟨vs, fp, rfl, h, hf⟩ hn hk0 hk1
  refine (kdCo.mark _ _ d fp k h hn hk0 (by have := cntCo_wt d; have : kdCo.wt d ≤ 1048576 := hn; omega)).mono ?_
  rintro e w' ⟨rfl, ho, hg⟩
  exact ⟨rfl, ⟨vs, fp, rfl, ho, hf⟩, TchF.tch hg hf⟩
theorem kC.szL (w : World) (v : Value) (d : CoD) (l : Nat) (h : kC.rd w v d) (h0 : 0 ≤ (l : Int)) (h1 : (l : Int) ≤ 1048576) : Calls Try.prog 29 #[v, .int .i64 l] w fun e w' => e = .returned (.int .i64 (if (kC.wt d : Int) ≤ l then l - kC.wt d else -1)) ∧ Ext w w' := by
  obtain ⟨vs, rfl, h⟩ := h
  exact kdCo.sz _ _ d _ h h0 h1
theorem kC.sz (w : World) (v : Value) (d : CoD) (h : kC.rd w v d) : Calls Try.prog 29 #[v, .int .i64 1048576] w fun e w' => e = .returned (.int .i64 (if (kC.wt d : Int) ≤ 1048576 then 1048576 - kC.wt d else -1)) ∧ Ext w w' := kC.szL w v d 1048576 h (by decide) (by decide)
end Go.Proofs.Ytmckompikbechaa
