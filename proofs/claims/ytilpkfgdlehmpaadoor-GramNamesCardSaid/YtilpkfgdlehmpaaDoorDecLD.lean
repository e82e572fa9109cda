/- Decode: what is read (plain law), and a reader beside other pieces. -/
import Derived.Test.YtilpkfgdlehmpaaDoorOpnD
import Derived.Test.YtilpkfgdlehmpaaDoorMay
namespace Go.Proofs.YtilpkfgdlehmpaaDoor
open Go.RowKit Go.Shelf
set_option linter.unusedVariables false

/-- Numbers that are read into cells, one by one. -/
def rdF : List (Nat × Int) → RdSt18 → List Value → List Value × RdSt18
  | [], st, cs => (cs, st)
  | y :: ys, st, cs => rdF ys (upK st most64).2 (cs.set y.1 (.int .u64 (upK st most64).1))
theorem rdF_snoc : ∀ (ys : List (Nat × Int)) (st : RdSt18) (cs : List Value) (i : Nat) (hi : i < ys.length),
    rdF (ys.take (i + 1)) st cs = ((rdF (ys.take i) st cs).1.set (ys[i]'hi).1 (.int .u64 (upK (rdF (ys.take i) st cs).2 most64).1), (upK (rdF (ys.take i) st cs).2 most64).2)
  | [], _, _, i, hi => by cases hi
  | y :: ys, st, cs, 0, _ => by simp [rdF]
  | y :: ys, st, cs, i + 1, hi => by
    have hi' : i < ys.length := by simpa using hi
    have := rdF_snoc ys (upK st most64).2 (cs.set y.1 (.int .u64 (upK st most64).1)) i hi'
    simp only [List.take_succ_cons, rdF, List.getElem_cons_succ]
    exact this
theorem rdF_length : ∀ (ys : List (Nat × Int)) (st : RdSt18) (cs : List Value), (rdF ys st cs).1.length = cs.length
  | [], _, _ => rfl
  | y :: ys, st, cs => by unfold rdF; rw [rdF_length]; simp
theorem fldN_mem {kind : Int} {i : Nat} (hi : i < (fldN kind).length) : ((fldN kind)[i]'hi).1 < 8 := fldN_lt kind _ (List.getElem_mem hi)
/-- What the code reads for a kind. -/
def rdG (kind : Int) (st : RdSt18) : (Int × Int × Int) × RdSt18 :=
  let q := if kind = 1 ∨ kind = 3 then (0, st) else upK st most64
  let k := if kind = 1 then (0, q.2) else upK q.2 most64
  let m := if kind = 1 then (0, k.2) else upK k.2 most64
  ((q.1, k.1, m.1), m.2)
theorem rdF_gm (kind fr dst n by' : Int) (data : List Int) (d : Value) (st : RdSt18) :
    rdF (fldN kind) st (gmC ⟨kind, fr, dst, n, by', 0, 0, 0, data⟩ d) = (gmC ⟨kind, fr, dst, n, by', (rdG kind st).1.1, (rdG kind st).1.2.1, (rdG kind st).1.2.2, data⟩ d, (rdG kind st).2) := by
  have hc : kind = 1 ∨ kind = 3 ∨ (¬ kind = 1 ∧ ¬ kind = 3) := by omega
  unfold fldN rdG
  rcases hc with rfl | rfl | ⟨h1, h2⟩
  · simp [rdF]
  · simp [rdF, gmC]
  · simp [h1, h2, rdF, gmC]
/-- What the code reads of opened bytes. -/
def readC (bs : List Int) : Gm × RdSt18 :=
  let a := upK (bs, false) 3
  let f := upK a.2 63
  let t := upK f.2 63
  let n := upK t.2 most64
  let b := upK n.2 63
  let r := rdG a.1 b.2
  let d := if a.1 = 2 then textK r.2 900 else ([], r.2)
  (⟨a.1, f.1, t.1, n.1, b.1, r.1.1, r.1.2.1, r.1.2.2, d.1⟩, d.2)
theorem readC_eq {bs : List Int} (h : 1 ≤ (upK (bs, false) 3).1) (h3 : (upK (bs, false) 3).1 ≤ 3) : readC bs = readK bs := by
  unfold readC readK rdG
  generalize upK (bs, false) 3 = a at *
  have hc : a.1 = 1 ∨ a.1 = 2 ∨ a.1 = 3 := by omega
  rcases hc with h | h | h <;> simp [h]
def Gm0 : Gm := ⟨0, 0, 0, 0, 0, 0, 0, 0, []⟩
/-- The answer: a datagram, and the error. -/
def decR (bs : List Int) : Gm × Int :=
  if openZ bs = 0 then (match decK (openB bs) with
    | none => (Gm0, 180)
    | some g => (g, 0)) else (Gm0, 40)
theorem decR_no {bs : List Int} (h : ¬ openZ bs = 0) : decR bs = (Gm0, 40) := by unfold decR; rw [if_neg h]
theorem decR_bad {bs : List Int} (h : openZ bs = 0) (hy : ∀ x ∈ openB bs, byteK x) (h1 : ¬ (endK (readC (openB bs)).2 ∧ mayK (readC (openB bs)).1)) : decR bs = (Gm0, 180) := by
  unfold decR
  rw [if_pos h]
  have hle := (upK_le (st := (openB bs, false)) (m := 3) (by omega) hy).2
  by_cases hk : 1 ≤ (upK (openB bs, false) 3).1
  · rw [readC_eq hk hle] at h1
    unfold decK
    rw [if_neg h1]
  · rw [decK_kind (by omega)]
theorem decR_good {bs : List Int} (h : openZ bs = 0) (hy : ∀ x ∈ openB bs, byteK x) (h1 : endK (readC (openB bs)).2 ∧ mayK (readC (openB bs)).1) : decR bs = ((readC (openB bs)).1, 0) := by
  unfold decR
  rw [if_pos h]
  have hle := (upK_le (st := (openB bs, false)) (m := 3) (by omega) hy).2
  have hk : 1 ≤ (upK (openB bs, false) 3).1 := by
    have := h1.2.2.2.2.2
    unfold formK at this
    have e : (readC (openB bs)).1.kind = (upK (openB bs, false) 3).1 := rfl
    rw [e] at this
    omega
  rw [readC_eq hk hle] at h1 ⊢
  unfold decK
  rw [if_pos h1]
theorem upK_u64 {st : RdSt18} (h : ∀ c ∈ st.1, byteK c) : U64 (upK st most64).1 := by
  have := upK_le (st := st) (m := most64) (by unfold most64; omega) h
  generalize (upK st most64).1 = z at *
  unfold most64 at this
  unfold U64
  omega
theorem textK_bytes {st : RdSt18} {m : Int} (h : ∀ c ∈ st.1, byteK c) : (∀ c ∈ (textK st m).1, byteK c) ∧ ∀ c ∈ (textK st m).2.1, byteK c := by
  have h2 := upK_bytes (m := m) h
  unfold textK
  split
  · exact ⟨fun c hc => (by cases hc), h⟩
  · split
    · exact ⟨fun c hc => (by cases hc), h⟩
    · exact ⟨fun c hc => h2 c (List.mem_of_mem_take hc), fun c hc => h2 c (List.mem_of_mem_drop hc)⟩
theorem rdG_ok (kind : Int) {st : RdSt18} (h : ∀ c ∈ st.1, byteK c) : U64 (rdG kind st).1.1 ∧ U64 (rdG kind st).1.2.1 ∧ U64 (rdG kind st).1.2.2 ∧ ∀ c ∈ (rdG kind st).2.1, byteK c := by
  have z : U64 0 := by unfold U64; omega
  have h1 := upK_u64 h
  have h2 := upK_bytes (m := most64) h
  have h3 := upK_u64 h2
  have h4 := upK_bytes (m := most64) h2
  have h5 := upK_u64 h4
  have h6 := upK_bytes (m := most64) h4
  have hc : kind = 1 ∨ kind = 3 ∨ (¬ kind = 1 ∧ ¬ kind = 3) := by omega
  unfold rdG
  rcases hc with rfl | rfl | ⟨k1, k2⟩
  · simp only [true_or, if_true]; exact ⟨z, z, z, h⟩
  · simp only [or_true, if_true, show ¬ ((3 : Int) = 1) by decide, if_false]; exact ⟨z, h1, h3, h4⟩
  · simp only [k1, k2, or_self, if_false]; exact ⟨h1, h3, h5, h6⟩
theorem readC_ok {bs : List Int} (h : ∀ c ∈ bs, byteK c) : GmOk (readC bs).1 := by
  have h0 : ∀ c ∈ ((bs, false) : RdSt18).1, byteK c := h
  have a1 := upK_le (m := 3) (by omega) h0
  have a2 := upK_bytes (m := 3) h0
  have b1 := upK_le (m := 63) (by omega) a2
  have b2 := upK_bytes (m := 63) a2
  have c1 := upK_le (m := 63) (by omega) b2
  have c2 := upK_bytes (m := 63) b2
  have d1 := upK_u64 c2
  have d2 := upK_bytes (m := most64) c2
  have e1 := upK_le (m := 63) (by omega) d2
  have e2 := upK_bytes (m := 63) d2
  obtain ⟨f1, f2, f3, f4⟩ := rdG_ok (upK (bs, false) 3).1 e2
  have g := textK_bytes (m := 900) f4
  refine ⟨?_, ?_, ?_, d1, ?_, f1, f2, f3, ?_⟩
  · show I64 (upK (upK (bs, false) 3).2 63).1
    unfold I64; omega
  · show I64 (upK (upK (upK (bs, false) 3).2 63).2 63).1
    unfold I64; omega
  · show I64 (upK (bs, false) 3).1
    unfold I64; omega
  · show I64 (upK (upK (upK (upK (upK (bs, false) 3).2 63).2 63).2 most64).2 63).1
    unfold I64; omega
  · unfold readC
    dsimp only
    split
    · exact g.1
    · exact fun c hc => by cases hc

section
variable {v : Value} {n : Nat} {xs : List Value} {r : Nat} {st : RdSt18} {L : List Pc} {w : World}
theorem RdrAt.set {b o : Nat} {cs : List Value} {t : TypeId} {u : Value} (H : RdrAt v n xs r st (.blk b cs t :: L) w) : RdrAt v n xs r st (.blk b (cs.set o u) t :: L) (w.setCell ⟨b, o, none⟩ u) := by
  obtain ⟨a, c, h, ok⟩ := H
  exact ⟨a, c, ((h.pull (.there (.there (.here _ _)))).setCell o u).re (.step (.there (.here _ _)) (.step (.there (.here _ _)) (.same _))), ok⟩
theorem RdrAt.re {L' : List Pc} (H : RdrAt v n xs r st L w) (h : Re L L') : RdrAt v n xs r st L' w := by
  obtain ⟨a, c, hs, ok⟩ := H
  exact ⟨a, c, hs.re (.step (.here _ _) (.step (.here _ _) h)), ok⟩
theorem RdrAt.sl (H : RdrAt v n xs r st L w) : SL w L := by
  obtain ⟨a, c, h, ok⟩ := H
  exact h.tail.tail
theorem RdrAt.alloc (H : RdrAt v n xs r st L w) (cs : List Value) (t : TypeId) : RdrAt v n xs r st (.blk w.heap.size cs t :: L) (w.alloc (.cells cs.toArray t)) := by
  obtain ⟨a, c, h, ok⟩ := H
  exact ⟨a, c, (h.alloc cs t).re (.step (.there (.here _ _)) (.step (.there (.here _ _)) (.same _))), ok⟩
theorem RdrAt.drew (H : RdrAt v n xs r st L w) : RdrAt v n xs r st L w.drew := by
  obtain ⟨a, c, h, ok⟩ := H
  exact ⟨a, c, h.drew, ok⟩
/-- What holds of the reader's slice. -/
def RdOk (v : Value) (n : Nat) (xs : List Value) (a : Option Addr) (c : Nat) (st : RdSt18) : Prop := (st.1.length ≤ c ∧ (a = none → c = 0)) ∧ st.1.length ≤ 6000 ∧ (∀ x ∈ st.1, byteK x) ∧ (∀ V M, SL V (.own 5 1 v n xs :: M) → RdY V a st.1)
abbrev rdrB (r : Nat) (a : Option Addr) (c : Nat) (st : RdSt18) : Pc := .blk r [.slice a st.1.length c, .bool true, .bool st.2] 105
theorem RdrAt.drewN (H : RdrAt v n xs r st L w) (k : Nat) : RdrAt v n xs r st L (w.drewN k) := by
  obtain ⟨a, c, h, ok⟩ := H
  exact ⟨a, c, h.drewN k, ok⟩
end
theorem SL.dropEnd {w : World} {A L E : List Pc} (h : SL w (A ++ (L ++ E))) : SL w (A ++ L) :=
  have hs : (A ++ L).Sublist (A ++ (L ++ E)) := (List.Sublist.refl A).append (List.sublist_append_left L E)
  ⟨fun q hq => h.all q (hs.subset hq), h.apart.sublist hs⟩
/-- Nine cells, stored one by one. -/
theorem SL.set9 {w : World} {b : Nat} {t : TypeId} {L : List Pc} {c0 c1 c2 c3 c4 c5 c6 c7 c8 : Value} (h : SL w (.blk b [c0, c1, c2, c3, c4, c5, c6, c7, c8] t :: L)) (v0 v1 v2 v3 v4 v5 v6 v7 v8 : Value) :
    SL (((((((((w.setCell ⟨b, 0, none⟩ v0).setCell ⟨b, 1, none⟩ v1).setCell ⟨b, 2, none⟩ v2).setCell ⟨b, 3, none⟩ v3).setCell ⟨b, 4, none⟩ v4).setCell ⟨b, 5, none⟩ v5).setCell ⟨b, 6, none⟩ v6).setCell ⟨b, 7, none⟩ v7).setCell ⟨b, 8, none⟩ v8) (.blk b [v0, v1, v2, v3, v4, v5, v6, v7, v8] t :: L) :=
  ((((((((h.setCell 0 v0).setCell 1 v1).setCell 2 v2).setCell 3 v3).setCell 4 v4).setCell 5 v5).setCell 6 v6).setCell 7 v7).setCell 8 v8
end Go.Proofs.YtilpkfgdlehmpaaDoor
