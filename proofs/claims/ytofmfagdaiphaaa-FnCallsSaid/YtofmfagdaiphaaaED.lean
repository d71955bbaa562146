/- A draw's state: typed rows, the cursor, boxes; what a callee made taken in; what lies there read. -/
import Derived.Test.YtofmfagdaiphaaaEC
import Derived.Test.YtofmfagdaiphaaaGQ
import Derived.Deep.RegionLaw
import Derived.Deep.RegionHeld3
import Derived.Deep.DeepCutAuto
namespace Go.Proofs.Ytofmfagdaiphaaa
open Go.RowKit Go.Sort
set_option linter.unusedVariables false

structure Stp (g : Nat) (T : Typ) (w : World) (T' : Typ) (w' : World) : Prop where
  le : TLe T T' w.heap.size
  kt : KT g T w w'
theorem Stp.refl (g : Nat) (T : Typ) (w : World) : Stp g T w T w := ⟨TLe.refl _ _, KT.refl⟩
theorem Stp.trans {g : Nat} {T T1 T2 : Typ} {w w1 w2 : World} (h : Stp g T w T1 w1) (k : Stp g T1 w1 T2 w2) : Stp g T w T2 w2 := ⟨h.le.trans k.le h.kt.size, h.kt.trans k.kt h.le⟩
theorem Stp.of_ext {g : Nat} {T : Typ} {w w' : World} (k : Ext w w') : Stp g T w T w' := ⟨TLe.refl _ _, KT.of_ext k⟩
theorem Stp.of_cur {g : Nat} {T : Typ} {w w' : World} (k : TchF [g] w w') : Stp g T w T w' := ⟨TLe.refl _ _, KT.of_cur k⟩

/-- Rows below w0 are not typed; of them only the cursor may have turned. -/
structure DS (w0 : World) (g L M : Nat) (T : Typ) (w : World) : Prop where
  ts : TS w0.heap.size L T w
  cu : Cur w g M
  tch : TchF [g] w0 w
  hg : g < w0.heap.size
structure DF (w0 ws : World) (g L M : Nat) (Ts T : Typ) (w : World) : Prop where
  ds : DS w0 g L M T w
  sp : Stp g Ts ws T w
  hs : w0.heap.size ≤ ws.heap.size
/-- A variable of the call's own. -/
structure Bx (g : Nat) (T : Typ) (w : World) (b : Nat) (cs : Array Value) (t : TypeId) : Prop where
  blk : Blk w b cs t
  ng : b ≠ g
  hT : T b = none
section
variable {w0 ws w w' : World} {g L M M' : Nat} {Ts T T' : Typ} {ks : List VK} {e : TypeId} {A : Option Addr} {n c m b : Nat} {cs : Array Value} {t : TypeId} {u : Value}
theorem Bx.cell (h : Bx g T w b cs t) (i : Nat) : w.cell? ⟨b, i, none⟩ = cs[i]? := h.blk.cell i
theorem Bx.free (h : Bx g T w b cs t) (i : Nat) : w.frozen? ⟨b, i, none⟩ = false := h.blk.free i
theorem Bx.lt (h : Bx g T w b cs t) : b < w.heap.size := h.blk.lt
theorem Bx.stp (h : Bx g T w b cs t) (k : Stp g T w T' w') : Bx g T' w' b cs t := ⟨h.blk.kt k.kt h.ng h.hT, h.ng, k.le.new b h.lt h.hT⟩
theorem Bx.ext (h : Bx g T w b cs t) (k : Ext w w') : Bx g T w' b cs t := h.stp (Stp.of_ext k)
theorem Bx.curs (h : Bx g T w b cs t) (k : TchF [g] w w') : Bx g T w' b cs t := h.stp (Stp.of_cur k)
theorem Bx.set (h : Bx g T w b cs t) (i : Nat) (u : Value) : Bx g T (w.setCell ⟨b, i, none⟩ u) b (cs.setIfInBounds i u) t := ⟨h.blk.set i u, h.ng, h.hT⟩
theorem Bx.far {p : Addr} (h : Bx g T w b cs t) (hp : b ≠ p.block) (u : Value) : Bx g T (w.setCell p u) b cs t := ⟨h.blk.far hp u, h.ng, h.hT⟩
theorem DS.size (h : DS w0 g L M T w) : w0.heap.size ≤ w.heap.size := h.tch.size
theorem DS.gT (h : DS w0 g L M T w) : T g = none := h.ts.none_lo h.hg
theorem DS.lo (h : DS w0 g L M T w) (hb : T b ≠ none) : w0.heap.size ≤ b ∧ b < w.heap.size ∧ b ≠ g := by
  cases hT : T b with
  | none => exact absurd hT hb
  | some r => have := h.ts.lt b r hT; have := h.hg; omega
theorem DS.cg (h : DS w0 g L M T w) : g < w.heap.size := by have := h.size; have := h.hg; omega
theorem Bx.new (h : DS w0 g L M T w) (cs : Array Value) (t : TypeId) : Bx g T (w.alloc (.cells cs t)) w.heap.size cs t := ⟨Blk.new rfl _ _, by have := h.cg; omega, h.ts.none_of (Nat.le_refl _)⟩
theorem Bx.newAt (h : DS w0 g L M T w) (hb : w.heap.size = b) (cs : Array Value) (t : TypeId) : Bx g T (w.alloc (.cells cs t)) b cs t := hb ▸ Bx.new h cs t
theorem DS.init (hc : Cur w g M) : DS w g L M (fun _ => none) w := ⟨⟨by simp, by simp⟩, hc, TchF.refl _ _, hc.lt⟩
theorem DS.more (h : DS w0 g L M T w) (hm : M ≤ M') : DS w0 g L M' T w := ⟨h.ts, h.cu.more hm, h.tch, h.hg⟩
theorem DS.moreL {L' : Nat} (h : DS w0 g L M T w) (hl : L ≤ L') : DS w0 g L' M T w := ⟨h.ts.moreL hl, h.cu, h.tch, h.hg⟩
theorem DS.ext (h : DS w0 g L M T w) (k : Ext w w') : DS w0 g L M T w' := ⟨h.ts.ext k, h.cu.ext k, h.tch.stepX k, h.hg⟩
theorem DS.curs (h : DS w0 g L M T w) (k : TchF [g] w w') (hc : Cur w' g M') : DS w0 g L M' T w' :=
  ⟨h.ts.tchF k (fun i hi => by simp at hi; subst hi; exact h.gT), hc, h.tch.step k (fun i hi => .inl (by simpa using hi)), h.hg⟩
theorem DF.start (h : DS w0 g L M T w) : DF w0 w g L M T T w := ⟨h, Stp.refl _ _ _, h.size⟩
theorem DF.more (h : DF w0 ws g L M Ts T w) (hm : M ≤ M') : DF w0 ws g L M' Ts T w := ⟨h.ds.more hm, h.sp, h.hs⟩
theorem DF.ext (h : DF w0 ws g L M Ts T w) (k : Ext w w') : DF w0 ws g L M Ts T w' := ⟨h.ds.ext k, h.sp.trans (Stp.of_ext k), h.hs⟩
theorem DF.curs (h : DF w0 ws g L M Ts T w) (k : TchF [g] w w') (hc : Cur w' g M') : DF w0 ws g L M' Ts T w' := ⟨h.ds.curs k hc, h.sp.trans (Stp.of_cur k), h.hs⟩
theorem DF.call (h : DF w0 ws g L M Ts T w) (k : DF w0 w g L M' T T' w') : DF w0 ws g L M' Ts T' w' := ⟨k.ds, h.sp.trans k.sp, h.hs⟩
/-- A variable of the call's own stored into. -/
theorem DF.box (h : DF w0 ws g L M Ts T w) (hb : ws.heap.size ≤ b) (hT : T b = none) (i : Nat) (u : Value) : DF w0 ws g L M Ts T (w.setCell ⟨b, i, none⟩ u) := by
  have k := TchF.put w ⟨b, i, none⟩ u (fp := [b]) (by simp)
  have hw := h.hs
  have hg := h.ds.hg
  refine ⟨⟨h.ds.ts.tchF k (fun j hj => by simp at hj; subst hj; exact hT), h.ds.cu.tchF k (fun j hj => by simp at hj; omega), h.ds.tch.step k (fun j hj => .inr (by simp at hj; omega)), hg⟩, ⟨h.sp.le, ?_⟩, hw⟩
  exact ⟨k.os.trans h.sp.kt.os, k.tape.trans h.sp.kt.tape, k.output.trans h.sp.kt.output, Nat.le_trans h.sp.kt.size k.size, fun j hj hjg hjT => (k.block j (Nat.lt_of_lt_of_le hj h.sp.kt.size) (by simp; omega)).trans (h.sp.kt.block j hj hjg hjT)⟩
theorem DF.bx (h : DF w0 ws g L M Ts T w) (x : Bx g T w b cs t) (hb : ws.heap.size ≤ b) (i : Nat) (u : Value) : DF w0 ws g L M Ts T (w.setCell ⟨b, i, none⟩ u) := h.box hb x.hT i u
/-- A cell of a typed row stored into. -/
theorem DF.store (h : DF w0 ws g L M Ts T w) (hb : T b = some (ks, e, m, c)) {i j : Nat} {k : VK} (hj : ks[j]? = some k) (hu : VT T k u) : DF w0 ws g L M Ts T (w.setCell ⟨b, i * ks.length + j, none⟩ u) := by
  have k := TchF.put w ⟨b, i * ks.length + j, none⟩ u (fp := [b]) (by simp)
  have hw := h.hs
  have hl := h.ds.lo (b := b) (by rw [hb]; simp)
  have hg := h.ds.hg
  exact ⟨⟨h.ds.ts.store hb hj hu, h.ds.cu.tchF k (fun j hj => by simp at hj; omega), h.ds.tch.step k (fun j hj => .inr (by simp at hj; omega)), h.ds.hg⟩, h.sp.trans ⟨TLe.refl _ _, KT.put b (.inr (.inr (by rw [hb]; simp))) _ _⟩, hw⟩
theorem Bx.store (x : Bx g T w b cs t) {b' : Nat} (hb : T b' ≠ none) (i : Nat) (u : Value) : Bx g T (w.setCell ⟨b', i, none⟩ u) b cs t := x.far (fun e => hb (by rw [← show b = b' from e]; exact x.hT)) u
theorem DS.lit (h : DS w0 g L M T w) (cs : Array Value) (n : Nat) (e : TypeId) (ks : List VK) (hn : n ≤ L) (hL : n ≤ 1000000) (hs : cs.size = n * ks.length) (hel : EL T ks n (fun q => cs[q]?)) :
    ∃ T', DS w0 g L M T' (w.alloc (.cells cs e)) ∧ Stp g T w T' (w.alloc (.cells cs e)) ∧ ST T' ks e (some ⟨w.heap.size, 0, none⟩) n n := by
  obtain ⟨h1, h2, h3⟩ := h.ts.lit h.size cs n e hn (by unfold maxLen; omega) hs hel
  exact ⟨_, ⟨h1, h.cu.ext (Ext.alloc _ _), h.tch.stepX (Ext.alloc _ _), h.hg⟩, ⟨h2, KT.of_ext (Ext.alloc _ _)⟩, h3⟩
theorem DS.app {A' : Option Addr} {n' c' : Nat} (h : DS w0 g L M T w) (a : ApT w0.heap.size L T ks e w n' w' A' c' T') : DS w0 g L M T' w' ∧ Stp g T w T' w' ∧ ST T' ks e A' n' c' := by
  have hg := h.hg
  refine ⟨⟨a.ts, ?_, ?_, hg⟩, ⟨a.le, a.kt g⟩, a.st⟩
  · rcases a.fp with k | ⟨b, hb, k⟩
    · exact h.cu.tchF k (by simp)
    · exact h.cu.tchF k (fun i hi => by have := h.lo hb; simp at hi; omega)
  · rcases a.fp with k | ⟨b, hb, k⟩
    · exact h.tch.step k (by simp)
    · exact h.tch.step k (fun i hi => by have := h.lo hb; simp at hi; exact .inr (by omega))
theorem DF.stp (h : DF w0 ws g L M Ts T w) (k : Stp g T w T' w') (d : DS w0 g L M' T' w') : DF w0 ws g L M' Ts T' w' := ⟨d, h.sp.trans k, h.hs⟩
end

/-! ### What a callee made, taken in -/
def TEx (T T' : Typ) (f : List Nat) : Prop := (∀ b, T b ≠ none → T' b = T b) ∧ (∀ b, b ∉ f → T' b = T b)
theorem TEx.refl (T : Typ) (f : List Nat) : TEx T T f := ⟨fun _ _ => rfl, fun _ _ => rfl⟩
theorem TEx.trans {T T1 T2 : Typ} {f f1 f2 : List Nat} (h : TEx T T1 f1) (k : TEx T1 T2 f2) (h1 : ∀ i ∈ f1, i ∈ f) (h2 : ∀ i ∈ f2, i ∈ f) : TEx T T2 f :=
  ⟨fun b hb => by rw [k.1 b (by rw [h.1 b hb]; exact hb), h.1 b hb], fun b hb => by rw [k.2 b (fun hm => hb (h2 b hm)), h.2 b (fun hm => hb (h1 b hm))]⟩
theorem TEx.le {T T' : Typ} {f : List Nat} {h : Nat} (k : TEx T T' f) (hf : ∀ i ∈ f, h ≤ i) : TLe T T' h :=
  ⟨fun b ks e m c hb => ⟨m, Nat.le_refl _, by rw [k.1 b (by rw [hb]; simp), hb]⟩, fun b hb hn => by rw [k.2 b (fun hm => by have := hf b hm; omega), hn]⟩
theorem TEx.le0 {T T' : Typ} {f : List Nat} (k : TEx T T' f) : TLe T T' 0 := k.le (fun _ _ => Nat.zero_le _)
/-- Cells of one element. -/
def E1 (T : Typ) (ks : List VK) (cs : List Value) : Prop := cs.length = ks.length ∧ ∀ (j : Nat) (k : VK), ks[j]? = some k → ∃ v, cs[j]? = some v ∧ VT T k v
theorem E1.mono {T T' : Typ} {h : Nat} {ks : List VK} {cs : List Value} (s : E1 T ks cs) (l : TLe T T' h) : E1 T' ks cs := ⟨s.1, fun j k hk => by
  obtain ⟨v, h1, h2⟩ := s.2 j k hk
  exact ⟨v, h1, h2.mono l⟩⟩
theorem E1.app {T : Typ} {ks ks' : List VK} {cs cs' : List Value} (s : E1 T ks cs) (s' : E1 T ks' cs') : E1 T (ks ++ ks') (cs ++ cs') := by
  refine ⟨by simp [s.1, s'.1], fun j k hk => ?_⟩
  by_cases hj : j < ks.length
  · rw [List.getElem?_append_left hj] at hk
    rw [List.getElem?_append_left (by rw [s.1]; exact hj)]
    exact s.2 j k hk
  · rw [List.getElem?_append_right (by omega)] at hk
    rw [List.getElem?_append_right (by rw [s.1]; omega), s.1]
    exact s'.2 _ k hk
theorem E1.one {T : Typ} {k : VK} {v : Value} (h : VT T k v) : E1 T [k] [v] := ⟨rfl, fun j k' hk => by
  obtain rfl : j = 0 := by have := (List.getElem?_eq_some_iff.1 hk).1; simp at this; omega
  simp at hk
  subst hk
  exact ⟨v, rfl, h⟩⟩
theorem E1.cons {T : Typ} {k : VK} {v : Value} {ks : List VK} {cs : List Value} (h : VT T k v) (s : E1 T ks cs) : E1 T (k :: ks) (v :: cs) := (E1.one h).app s
theorem E1.nil {T : Typ} : E1 T [] [] := ⟨rfl, by simp⟩
theorem E1.el {T : Typ} {ks : List VK} {cs : List Value} (s : E1 T ks cs) : EL T ks 1 (fun q => cs[q]?) := fun i hi j k hk => by
  obtain rfl : i = 0 := by omega
  rw [Nat.zero_mul, Nat.zero_add]
  exact s.2 j k hk
def Imp {α : Type} (K : Kd α) (ks : List VK) (P : α → Prop) (L : Nat) : Prop :=
  ∀ (lo : Nat) (T : Typ) (w : World) (cs : List Value) (x : α) (f : List Nat), TS lo L T w → K.own w cs x f → P x → (∀ i ∈ f, lo ≤ i ∧ T i = none) → ∃ T', TS lo L T' w ∧ TEx T T' f ∧ E1 T' ks cs
theorem imp_str (L : Nat) : Imp kdS [.str] (fun x => x.length ≤ 16) L := by
  rintro lo T w cs x f h ⟨⟨rfl, _⟩, rfl⟩ hx _
  exact ⟨T, h, TEx.refl _ _, E1.one (k := .str) (isStr_of hx)⟩
theorem imp_int (L : Nat) : Imp kdInt [.int] (fun _ => True) L := by
  rintro lo T w cs x f h ⟨rfl, rfl⟩ hx _
  exact ⟨T, h, TEx.refl _ _, E1.one (k := .int) ⟨x, rfl⟩⟩
theorem imp_late (L : Nat) : Imp kdLate [.bool] (fun _ => True) L := by
  rintro lo T w cs x f h ⟨rfl, rfl⟩ hx _
  exact ⟨T, h, TEx.refl _ _, E1.one (k := .bool) ⟨x, rfl⟩⟩
theorem imp_pair {α β : Type} {K : Kd α} {K' : Kd β} {ks ks' : List VK} {P : α → Prop} {P' : β → Prop} {L : Nat} (h1 : Imp K ks P L) (h2 : Imp K' ks' P' L) : Imp (kdPair K K') (ks ++ ks') (fun x => P x.1 ∧ P' x.2) L := by
  rintro lo T w cs x f h ⟨v1, v2, f1, f2, rfl, o1, o2, rfl, hnd⟩ ⟨p1, p2⟩ hf
  obtain ⟨T1, t1, x1, e1⟩ := h1 lo T w v1 x.1 f1 h o1 p1 (fun i hi => hf i (by simp [hi]))
  obtain ⟨T2, t2, x2, e2⟩ := h2 lo T1 w v2 x.2 f2 t1 o2 p2 (fun i hi => ⟨(hf i (by simp [hi])).1, by
    rw [x1.2 i (fun hm => (List.nodup_append.1 hnd).2.2 i hm i hi rfl)]
    exact (hf i (by simp [hi])).2⟩)
  exact ⟨T2, t2, x1.trans x2 (by simp +contextual) (by simp +contextual), (e1.mono x2.le0).app e2⟩
theorem imp_list {α : Type} {K : Kd α} {ks : List VK} {P : α → Prop} {L : Nat} (e : TypeId) (p : Nat) (hsz : K.size = ks.length) (hK : Imp K ks P L) : Imp (kdList e K) [.sl ks e p] (fun xs => p ≤ xs.length ∧ xs.length ≤ L ∧ ∀ x ∈ xs, P x) L := by
  rintro lo T w cs xs fp h ⟨A, c, rfl, css, fps, hr, hl1, hl2, hown, hfp, hnd⟩ ⟨hpn, hL, hP⟩ hf
  have hnd2 : (∀ p, A = some p → p.block ∉ fps.flatten) ∧ fps.flatten.Nodup := by
    rw [hfp] at hnd
    cases A with
    | none => exact ⟨by simp, by simpa using hnd⟩
    | some p => simp at hnd; exact ⟨fun q hq => by injection hq with hq; subst hq; simpa using hnd.1, hnd.2⟩
  have hall : ∀ cs ∈ css, cs.length = ks.length := by
    intro cs hcs
    obtain ⟨i, hi, rfl⟩ := List.getElem_of_mem hcs
    rw [← hsz]
    exact K.rd_len (K.own_rd (hown i _ _ _ (List.getElem?_eq_getElem hi) (List.getElem?_eq_getElem (by omega)) (List.getElem?_eq_getElem (by omega))))
  have main : ∀ n, n ≤ xs.length → ∃ Tn, TS lo L Tn w ∧ TEx T Tn (fps.take n).flatten ∧ ∀ i cs, i < n → css[i]? = some cs → E1 Tn ks cs := by
    intro n
    induction n with
    | zero => exact fun _ => ⟨T, h, TEx.refl _ _, fun i cs hi => absurd hi (by omega)⟩
    | succ n ih =>
      intro hn
      obtain ⟨Tn, t1, x1, e1⟩ := ih (by omega)
      have hfn : fps[n]? = some fps[n] := List.getElem?_eq_getElem (by omega)
      have hcn : css[n]? = some css[n] := List.getElem?_eq_getElem (by omega)
      have hxn : xs[n]? = some xs[n] := List.getElem?_eq_getElem (by omega)
      have e : (fps.take (n + 1)).flatten = (fps.take n).flatten ++ fps[n] := by
        rw [List.take_succ_eq_append_getElem (by omega), List.flatten_append]; simp
      obtain ⟨T2, t2, x2, e2⟩ := hK lo Tn w css[n] xs[n] fps[n] t1 (hown n _ _ _ hcn hxn hfn) (hP _ (List.getElem_mem _)) (fun i hi => by
        have hm : i ∈ fp := by rw [hfp]; exact List.mem_append_right _ (List.mem_flatten.2 ⟨_, List.mem_of_getElem? hfn, hi⟩)
        refine ⟨(hf i hm).1, ?_⟩
        rw [x1.2 i (fun hm2 => ?_)]
        · exact (hf i hm).2
        · obtain ⟨f, hf1, hf2⟩ := List.mem_flatten.1 hm2
          obtain ⟨q, hq, rfl⟩ := List.getElem_of_mem hf1
          rw [List.length_take] at hq
          rw [List.getElem_take] at hf2
          exact nodup_flat_ne hnd2.2 (List.getElem?_eq_getElem (by omega)) hfn (show q ≠ n by omega) i hf2 hi)
      refine ⟨T2, t2, x1.trans x2 (by rw [e]; simp +contextual) (by rw [e]; simp +contextual), fun i cs hi hc => ?_⟩
      by_cases hin : i < n
      · exact (e1 i cs hin hc).mono x2.le0
      · obtain rfl : i = n := by omega
        rw [hcn] at hc
        injection hc with hc
        subst hc
        exact e2
  obtain ⟨T1, t1, x1, e1⟩ := main xs.length (Nat.le_refl _)
  rw [List.take_of_length_le (by omega)] at x1
  have hsub : ∀ i ∈ fps.flatten, i ∈ fp := fun i hi => by rw [hfp]; simp [hi]
  rcases hr.2 with ⟨hh, h0⟩ | ⟨g, cap, cur, hh, _, hg, hnc, hcm, hcs, htake⟩
  · simp only [Value.slice.injEq] at hh
    obtain ⟨rfl, hx0, rfl⟩ := hh
    exact ⟨T1, t1, x1.trans (TEx.refl _ []) hsub (by simp), E1.one (k := .sl ks e p) ⟨none, _, 0, rfl, .inl ⟨rfl, h0, rfl⟩, hpn⟩⟩
  · simp only [Value.slice.injEq] at hh
    obtain ⟨rfl, _, rfl⟩ := hh
    have hgm : g ∈ fp := by rw [hfp]; simp
    have hgT : T1 g = none := by rw [x1.2 g (hnd2.1 _ rfl)]; exact (hf g hgm).2
    rw [hsz] at hcs htake
    have hel : EL T1 ks xs.length (fun q => cur[q]?) := by
      intro i hi j k hk
      have hc : css[i]? = some css[i] := List.getElem?_eq_getElem (by omega)
      have hj := (List.getElem?_eq_some_iff.1 hk).1
      obtain ⟨v, h1, h2⟩ := (e1 i _ hi hc).2 j k hk
      refine ⟨v, ?_, h2⟩
      have := flatten_at hall i j _ hc hj
      rw [← htake, h1, List.getElem?_take] at this
      split at this
      · simpa using this
      · cases this
    obtain ⟨t2, l2⟩ := t1.add (ks := ks) (m := xs.length) (c := c) hgT (hf g hgm).1 hg hL hnc hcm hcs hel
    refine ⟨_, t2, x1.trans (f2 := [g]) ⟨fun b hb => ?_, fun b hb => ?_⟩ hsub (by simpa using hgm), E1.one (k := .sl ks e p) ⟨_, _, _, rfl, .inr ⟨g, _, rfl, Typ.put_same _ _ _, Nat.le_refl _⟩, hpn⟩⟩
    · exact Typ.put_other (by rintro rfl; exact hb hgT)
    · exact Typ.put_other (by simpa using hb)
/-- What a callee made. -/
theorem DS.imp {α : Type} {K : Kd α} {ks : List VK} {P : α → Prop} {w0 w w' : World} {g L M : Nat} {T : Typ} {cs : List Value} {x : α} {f : List Nat} (hK : Imp K ks P L) (h : DS w0 g L M T w) (k : Ext w w') (ho : K.own w' cs x f) (hx : P x) (hf : ∀ i ∈ f, w.heap.size ≤ i) :
    ∃ T', DS w0 g L M T' w' ∧ Stp g T w T' w' ∧ E1 T' ks cs := by
  have hd := h.ext k
  have hs := h.size
  obtain ⟨T', t, x1, e⟩ := hK _ T w' cs x f hd.ts ho hx (fun i hi => ⟨by have := hf i hi; omega, h.ts.none_of (hf i hi)⟩)
  exact ⟨T', ⟨t, hd.cu, hd.tch, hd.hg⟩, ⟨x1.le hf, KT.of_ext k⟩, e⟩
theorem DS.impL {α : Type} {K : Kd α} {ks : List VK} {e : TypeId} {P : α → Prop} {w0 w w' : World} {g L M : Nat} {T : Typ} {A : Option Addr} {c : Nat} {xs : List α} {f : List Nat} (hK : Imp (kdList e K) [.sl ks e 0] (fun xs => 0 ≤ xs.length ∧ xs.length ≤ L ∧ ∀ x ∈ xs, P x) L) (h : DS w0 g L M T w) (k : Ext w w') (ho : LO K e w' A c xs f) (hl : xs.length ≤ L) (hx : ∀ x ∈ xs, P x) (hf : ∀ i ∈ f, w.heap.size ≤ i) :
    ∃ T', DS w0 g L M T' w' ∧ Stp g T w T' w' ∧ ST T' ks e A xs.length c := by
  obtain ⟨T', h1, h2, h3⟩ := DS.imp hK h k (cs := [.slice A xs.length c]) ⟨A, c, rfl, ho⟩ ⟨Nat.zero_le _, hl, hx⟩ hf
  obtain ⟨v, h4, A', n', c', h5, h6, _⟩ := h3.2 0 _ rfl
  simp at h4
  rw [← h4] at h5
  simp only [Value.slice.injEq] at h5
  obtain ⟨rfl, rfl, rfl⟩ := h5
  exact ⟨T', h1, h2, h6⟩

/-! ### What lies there, read -/
def Exp {α : Type} (K : Kd α) (ks : List VK) (P : α → Prop) (L : Nat) : Prop := ∀ (lo : Nat) (T : Typ) (w : World) (cs : List Value), TS lo L T w → E1 T ks cs → ∃ x, K.rd w w.heap.size cs x ∧ P x
theorem E1.inv1 {T : Typ} {k : VK} {cs : List Value} (h : E1 T [k] cs) : ∃ v, cs = [v] ∧ VT T k v := by
  obtain ⟨h1, h2⟩ := h
  match cs, h1 with
  | [v], _ =>
    obtain ⟨u, h3, h4⟩ := h2 0 k rfl
    simp at h3
    subst h3
    exact ⟨v, rfl, h4⟩
theorem exp_str (L : Nat) : Exp kdS [.str] (fun x => x.length ≤ 16) L := by
  rintro lo T w cs h he
  obtain ⟨v, rfl, y, rfl, hy⟩ := he.inv1
  exact ⟨y, ⟨rfl, by omega⟩, hy⟩
theorem exp_int (L : Nat) : Exp kdInt [.int] (fun _ => True) L := by
  rintro lo T w cs h he
  obtain ⟨v, rfl, y, rfl⟩ := he.inv1
  exact ⟨y, rfl, trivial⟩
theorem exp_late (L : Nat) : Exp kdLate [.bool] (fun _ => True) L := by
  rintro lo T w cs h he
  obtain ⟨v, rfl, y, rfl⟩ := he.inv1
  exact ⟨y, rfl, trivial⟩
theorem exp_pair {α β : Type} {K : Kd α} {K' : Kd β} {ks ks' : List VK} {P : α → Prop} {P' : β → Prop} {L : Nat} (h1 : Exp K ks P L) (h2 : Exp K' ks' P' L) : Exp (kdPair K K') (ks ++ ks') (fun x => P x.1 ∧ P' x.2) L := by
  rintro lo T w cs h ⟨hl, he⟩
  rw [List.length_append] at hl
  obtain ⟨x, r1, p1⟩ := h1 lo T w (cs.take ks.length) h ⟨by simp; omega, fun j k hk => by
    have hj := (List.getElem?_eq_some_iff.1 hk).1
    obtain ⟨v, h3, h4⟩ := he j k (by rw [List.getElem?_append_left hj]; exact hk)
    exact ⟨v, by rw [List.getElem?_take, if_pos hj]; exact h3, h4⟩⟩
  obtain ⟨y, r2, p2⟩ := h2 lo T w (cs.drop ks.length) h ⟨by simp; omega, fun j k hk => by
    obtain ⟨v, h3, h4⟩ := he (ks.length + j) k (by rw [List.getElem?_append_right (by omega)]; rw [show ks.length + j - ks.length = j by omega]; exact hk)
    exact ⟨v, by rw [List.getElem?_drop]; exact h3, h4⟩⟩
  exact ⟨(x, y), ⟨_, _, (List.take_append_drop _ _).symm, r1, r2⟩, p1, p2⟩
theorem LR.of_ST {α : Type} {K : Kd α} {ks : List VK} {P : α → Prop} {L lo : Nat} {T : Typ} {w : World} {e : TypeId} {A : Option Addr} {n c : Nat} (hsz : K.size = ks.length) (hK : Exp K ks P L) (h : TS lo L T w) (hs : ST T ks e A n c) :
    ∃ xs, LR K w w.heap.size A c xs ∧ xs.length = n ∧ ∀ x ∈ xs, P x := by
  have hln := h.len hs
  have hcm : c ≤ 9223372036854775807 := by have := hln.2.2; unfold maxLen at this; omega
  rcases hs with ⟨rfl, rfl, rfl⟩ | ⟨b, m, rfl, hb, hn⟩
  · exact ⟨[], ⟨Nat.le_refl _, by omega, by simp⟩, rfl, by simp⟩
  · obtain ⟨h1, h2, h3, cur, h4, h5, h6⟩ := h.row b ks e m c hb
    have main : ∀ q, q ≤ n → ∃ xs : List α, xs.length = q ∧ (∀ x ∈ xs, P x) ∧ ∀ (k : Nat) (x : α), xs[k]? = some x → ∃ cs, K.rd w w.heap.size cs x ∧ ∀ j u, cs[j]? = some u → w.cell? ⟨b, 0 + (k * K.size + j), none⟩ = some u := by
      intro q
      induction q with
      | zero => exact fun _ => ⟨[], rfl, by simp, by simp⟩
      | succ q ih =>
        intro hq
        obtain ⟨xs, e1, e2, e3⟩ := ih (by omega)
        have hq1 : (q + 1) * ks.length ≤ c * ks.length := Nat.mul_le_mul_right _ (by omega)
        rw [Nat.add_mul] at hq1
        obtain ⟨cs, hcs⟩ : ∃ cs, cs = (cur.toList.drop (q * ks.length)).take ks.length := ⟨_, rfl⟩
        have hcl : cs.length = ks.length := by rw [hcs]; simp; omega
        have hcg : ∀ j, j < ks.length → cs[j]? = cur[q * ks.length + j]? := fun j hj => by rw [hcs, List.getElem?_take, if_pos hj, List.getElem?_drop]; simp
        obtain ⟨x, hx, hp⟩ := hK lo T w cs h ⟨hcl, fun j k hk => by
          have hj := (List.getElem?_eq_some_iff.1 hk).1
          obtain ⟨v, h7, h8⟩ := h6 q (by omega) j k hk
          exact ⟨v, by rw [hcg j hj]; exact h7, h8⟩⟩
        refine ⟨xs ++ [x], by simp [e1], fun y hy => ?_, fun k y hy => ?_⟩
        · rcases List.mem_append.1 hy with hy | hy
          · exact e2 y hy
          · simp at hy; subst hy; exact hp
        · by_cases hkq : k < xs.length
          · rw [List.getElem?_append_left hkq] at hy
            exact e3 k y hy
          · have hk2 := (List.getElem?_eq_some_iff.1 hy).1
            simp at hk2
            obtain rfl : k = xs.length := by omega
            rw [List.getElem?_append_right (Nat.le_refl _)] at hy
            simp at hy
            subst hy
            refine ⟨cs, hx, fun j u hu => ?_⟩
            have hj := (List.getElem?_eq_some_iff.1 hu).1
            rw [hcl] at hj
            rw [Nat.zero_add, cell_of_row w b _ cur e (0, 0) h4, hsz, e1, ← hcg j hj, hu]
    obtain ⟨xs, e1, e2, e3⟩ := main n (Nat.le_refl _)
    refine ⟨xs, ⟨by omega, hcm, fun k x hx => ?_⟩, e1, e2⟩
    obtain ⟨cs, h7, h8⟩ := e3 k x hx
    exact ⟨b, 0, cs, rfl, (h.lt b _ hb).2, h7, h8⟩
theorem exp_list {α : Type} {K : Kd α} {ks : List VK} {P : α → Prop} {L : Nat} (e : TypeId) (p : Nat) (hsz : K.size = ks.length) (hK : Exp K ks P L) : Exp (kdList e K) [.sl ks e p] (fun xs => p ≤ xs.length ∧ xs.length ≤ L ∧ ∀ x ∈ xs, P x) L := by
  rintro lo T w cs h he
  obtain ⟨v, rfl, A, n, c, rfl, hs, hp⟩ := he.inv1
  obtain ⟨xs, h1, h2, h3⟩ := LR.of_ST hsz hK h hs
  subst h2
  exact ⟨xs, ⟨A, c, rfl, h1⟩, hp, (h.len hs).1, h3⟩

/-! ### The kinds -/
abbrev vS (p : Nat) : VK := .sl [.str] 9 p
abbrev vI (p : Nat) : VK := .sl [.int] 3 p
abbrev ksIt (p : Nat) : List VK := [vS p, vI p, .bool]
abbrev ksEl : List VK := [.str, .int, .int, .int]
abbrev pS (p L : Nat) (xs : List (List UInt8)) : Prop := p ≤ xs.length ∧ xs.length ≤ L ∧ ∀ x ∈ xs, x.length ≤ 16
abbrev pI (p L : Nat) (xs : List Int) : Prop := p ≤ xs.length ∧ xs.length ≤ L ∧ ∀ x ∈ xs, True
abbrev pIt (p L : Nat) (x : ItD) : Prop := pS p L x.1 ∧ pI p L x.2.1 ∧ True
abbrev pEl (x : ElD) : Prop := x.1.length ≤ 16 ∧ True ∧ True ∧ True
theorem imp_item (p L : Nat) : Imp kdItem (ksIt p) (pIt p L) L := imp_pair (imp_list 9 p rfl (imp_str L)) (imp_pair (imp_list 3 p rfl (imp_int L)) (imp_late L))
theorem exp_item (p L : Nat) : Exp kdItem (ksIt p) (pIt p L) L := exp_pair (exp_list 9 p rfl (exp_str L)) (exp_pair (exp_list 3 p rfl (exp_int L)) (exp_late L))
theorem imp_el (L : Nat) : Imp kdEl ksEl pEl L := imp_pair (imp_str L) (imp_pair (imp_int L) (imp_pair (imp_int L) (imp_int L)))
theorem exp_el (L : Nat) : Exp kdEl ksEl pEl L := exp_pair (exp_str L) (exp_pair (exp_int L) (exp_pair (exp_int L) (exp_int L)))
theorem elemN_ints : ElemN Try.prog 42 3 1 8 (.int .i64 0) := ElemN.mk Try.underlying42 info_int rfl
theorem elemN_str : ElemN Try.prog 48 9 1 16 (.string (bs [])) := ElemN.mk Try.underlying48 info_str rfl
end Go.Proofs.Ytofmfagdaiphaaa
