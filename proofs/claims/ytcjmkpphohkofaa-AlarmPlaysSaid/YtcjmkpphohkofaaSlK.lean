/- A slice of the call's own, opened as its block: copy, clear and append inside it, at elements of k cells. Nothing here names the program. -/
import Derived.Test.YtcjmkpphohkofaaSL
import Derived.ArgAppend
import Derived.Laws.CopyRow
import Derived.Laws.IdiomCopy
import Derived.Lib.Overlaps
import Derived.Lib.AppendZeros
import Derived.Shelf.Spec.SlicesInsert
namespace Go.Proofs.Ytcjmkpphohkofaa
open Go.RowKit
set_option linter.unusedVariables false

section
variable {w : World} {L : List Pc} {e : TypeId} {k g n cap : Nat} {xs cs : List Value}
theorem SL.toBlk (H : SL w (.own e k (.slice (some ⟨g, 0, none⟩) n cap) n xs :: L)) : ∃ cs, cs.length = cap * k ∧ n ≤ cap ∧ cap ≤ maxLen ∧ cs.take (n * k) = xs ∧ SL w (.blk g cs e :: L) := by
  obtain ⟨hl, h | ⟨g', cap', cur, h1, -, h2, h3, h4, h5, h6⟩⟩ := (show w.ownsRow 0 e k _ n xs from H.head)
  · cases h.1
  · cases h1
    refine ⟨cur.toList, by simpa using h5, h3, h4, h6, ?_⟩
    exact H.upd (q := .blk g cur.toList e) ((Kp.refl _ w)) (show w.heap[g]? = some (.cells cur.toList.toArray e) from by simpa using h2) fun b hb => .inl (by obtain rfl : b = g := hb; rfl)
theorem SL.toOwn (H : SL w (.blk g cs e :: L)) (hl : cs.length = cap * k) (hn : n ≤ cap) (hm : cap ≤ maxLen) : SL w (.own e k (.slice (some ⟨g, 0, none⟩) n cap) n (cs.take (n * k)) :: L) := by
  refine H.upd (q := .own e k (.slice (some ⟨g, 0, none⟩) n cap) n (cs.take (n * k))) (Kp.refl _ w) ?_ fun b hb => .inl ?_
  · refine ⟨?_, .inr ⟨g, cap, cs.toArray, rfl, Nat.zero_le _, H.head, hn, hm, by simpa using hl, rfl⟩⟩
    rw [List.length_take, hl]
    exact Nat.min_eq_left (Nat.mul_le_mul_right k hn)
  · have : some g = some b := hb
    cases this
    rfl
/-- The block's cells from o on, set one by one. -/
def splice (cs : List Value) (o : Nat) (vs : List Value) : List Value := cs.take o ++ vs ++ cs.drop (o + vs.length)
theorem splice_length (cs : List Value) (o : Nat) (vs : List Value) (h : o + vs.length ≤ cs.length) : (splice cs o vs).length = cs.length := by
  unfold splice
  simp only [List.length_append, List.length_take, List.length_drop]
  omega
theorem SL.setCells : ∀ (vs : List Value) (o : Nat) (cs : List Value) (w : World), SL w (.blk g cs e :: L) → o + vs.length ≤ cs.length → SL (w.setCells g o vs) (.blk g (splice cs o vs) e :: L)
  | [], o, cs, w, H, _ => by
    have : splice cs o [] = cs := by simp [splice]
    rw [this]
    exact H
  | v :: vs, o, cs, w, H, h => by
    have h' : o + 1 + vs.length ≤ (cs.set o v).length := by simp only [List.length_set]; simp only [List.length_cons] at h; omega
    have := SL.setCells vs (o + 1) (cs.set o v) _ (H.setCell o v) h'
    have e1 : splice (cs.set o v) (o + 1) vs = splice cs o (v :: vs) := by
      unfold splice
      have := list_seg_step cs o v vs (by simp only [List.length_cons] at h; omega)
      rw [this]
      simp
    rw [e1] at this
    exact this
theorem blk_some (H : SL w (.blk g cs e :: L)) {o : Nat} (h : o < cs.length) : (w.cell? ⟨g, o, none⟩).isSome = true := by
  rw [H.cell (.here _ _) (List.getElem?_eq_getElem h)]
  rfl
/-- What lies in the block, from o on. -/
theorem blk_part (H : SL w (.blk g cs e :: L)) (o m : Nat) (h : o + m ≤ cs.length) : ∀ j u, ((cs.drop o).take m)[j]? = some u → w.cell? ((⟨g, o, none⟩ : Addr).add j) = some u := by
  intro j u hu
  have hj := (List.getElem?_eq_some_iff.1 hu).1
  rw [List.length_take, List.length_drop] at hj
  rw [List.getElem?_take, if_pos (by omega), List.getElem?_drop] at hu
  rw [Addr.add_lit]
  exact H.cell (.here _ _) hu
end

section
variable {P : Program} {w : World} {L : List Pc} {t ty e : TypeId} {k g : Nat} {z : Value} {bytes : Nat} {cs : List Value}
/-- copy into the block: all is read first. -/
theorem run_copyK (E : ElemK P t e k z bytes) (dT sT : TypeId) (hd : P.underlying dT = some (.slice e)) (H : SL w (.blk g cs e :: L)) (o dLen dCap : Nat) (a : Addr) (sLen sCap : Nat) (vs : List Value) (hn : vs.length = Nat.min sLen dLen * k)
    (hsrc : ∀ j v, vs[j]? = some v → w.cell? (a.add j) = some v) (hfit : o + vs.length ≤ cs.length) (h1 : ∀ v ∈ vs, v.oneCell' = true) :
    (Builtin.copy_ #[dT, sT] ty #[.slice (some ⟨g, o, none⟩) dLen dCap, .slice (some a) sLen sCap]).run P w = .ok (goInt (Nat.min sLen dLen)) (w.setCells g o vs) ∧ SL (w.setCells g o vs) (.blk g (splice cs o vs) e :: L) := by
  have hl := run_loadCells_list (P := P) w a vs hsrc
  have hst := run_storeCells_cells (P := P) g o vs 0 w (fun j hj => by rw [Nat.add_zero]; exact blk_some H (by omega)) (fun j hj => H.free (.here _ _) _) h1
  rw [Nat.add_zero] at hst
  refine ⟨?_, H.setCells vs o cs w hfit⟩
  obtain ⟨i, hi, hz, hsz, hby⟩ := info_parts E.info
  simp [Builtin.copy_, run_underlying hd, Builtin.lenOf, Builtin.firstCells, sizeOf, typeInfo, hi, hsz, ← hn, hl, hst]
/-- clear. -/
theorem run_clearK (E : ElemK P t e k z bytes) (hv : ∀ w, (zeroValue e).run P w = .ok z w) (H : SL w (.blk g cs e :: L)) (o n c : Nat) (hfit : o + n * k ≤ cs.length) (h1 : ∀ v ∈ (Builtin.zeroCells z.cells n).toList, v.oneCell' = true) :
    (Builtin.clear_ #[t] ty #[.slice (some ⟨g, o, none⟩) n c]).run P w = .ok (.tuple #[]) (w.setCells g o (Builtin.zeroCells z.cells n).toList) ∧ SL (w.setCells g o (Builtin.zeroCells z.cells n).toList) (.blk g (splice cs o (Builtin.zeroCells z.cells n).toList) e :: L) := by
  have hlen : (Builtin.zeroCells z.cells n).toList.length = n * k := by rw [Array.length_toList, size_zeroCells, E.cells]
  have hst := run_storeCells_cells (P := P) g o (Builtin.zeroCells z.cells n).toList 0 w (fun j hj => by rw [Nat.add_zero]; exact blk_some H (by omega)) (fun j hj => H.free (.here _ _) _) h1
  rw [Nat.add_zero] at hst
  refine ⟨?_, H.setCells _ o cs w (by rw [hlen]; exact hfit)⟩
  cases n with
  | zero =>
    have e0 : (Builtin.zeroCells z.cells 0).toList = [] := by simp [Builtin.zeroCells]
    rw [e0]
    simp [Builtin.clear_, run_underlying E.under, World.setCells]
  | succ n => simp [Builtin.clear_, run_underlying E.under, hv, hst]
theorem zero_one {zs : Array Value} {n : Nat} (h : ∀ v ∈ zs.toList, v.oneCell' = true) (h0 : 0 < zs.size) : ∀ v ∈ (Builtin.zeroCells zs n).toList, v.oneCell' = true := by
  intro v hv
  simp only [Builtin.zeroCells, Array.toList_map, List.mem_map] at hv
  obtain ⟨i, -, rfl⟩ := hv
  have hi : i % zs.size < zs.size := Nat.mod_lt _ h0
  rw [getElem!_pos zs _ hi]
  exact h _ (by simp)
/-- append into the block, where there is room: all is read first. -/
theorem run_roomK (E : ElemK P t e k z bytes) (H : SL w (.blk g cs e :: L)) (n cap : Nat) (a : Addr) (m c : Nat) (vs : List Value) (hl : vs.length = m * k) (hsrc : ∀ j v, vs[j]? = some v → w.cell? (a.add j) = some v) (h1 : ∀ v ∈ vs, v.oneCell' = true)
    (hcs : cs.length = cap * k) (hroom : n + m ≤ cap) :
    (Builtin.append_ #[t, t] ty #[.slice (some ⟨g, 0, none⟩) n cap, .slice (some a) m c]).run P w = .ok (.slice (some ⟨g, 0, none⟩) (n + m) cap) (w.setCells g (n * k) vs) ∧ SL (w.setCells g (n * k) vs) (.blk g (splice cs (n * k) vs) e :: L) := by
  obtain ⟨i, hi, hz, hsz, hby⟩ := info_parts E.info
  have hle : n * k + vs.length ≤ cs.length := by rw [hl, hcs, ← Nat.add_mul]; exact Nat.mul_le_mul_right k hroom
  have hr := run_append_room_cells (P := P) (w := w) t ty e i E.under hi g 0 n cap a m c vs (by rw [hsz]; exact hl) hsrc h1 hroom (fun j hj => by rw [hsz, Nat.zero_add]; exact blk_some H (by omega)) (fun j hj => H.free (.here _ _) _)
  rw [hsz, Nat.zero_add] at hr
  exact ⟨hr, H.setCells vs _ cs w hle⟩
/-- append(s, make([]T, n)...) where there is no room. -/
theorem run_zerosK (E : ElemK P t e k z bytes) {tn : TypeId} {kn : IntKind} (htn : P.underlying tn = some (.int kn)) (b : Addr) (sLen sCap : Nat) (olds : List Value) (hlo : olds.length = sLen * k) (holds : ∀ j v, olds[j]? = some v → w.cell? (b.add j) = some v)
    (n : Nat) (hg : sCap < sLen + n) (h63 : sLen + n ≤ maxLen) (hbytes : (sLen + n) * bytes ≤ 140737488355328) :
    ∃ cap, (Builtin.append_ #[t, tn] ty #[.slice (some b) sLen sCap, .int kn n]).run P w = .ok (.slice (some ⟨w.heap.size, 0, none⟩) (sLen + n) cap) (w.drew.alloc (.cells (olds ++ (Builtin.zeroCells z.cells (cap - sLen)).toList).toArray e)) ∧
      sLen + n ≤ cap ∧ cap ≤ maxLen := by
  obtain ⟨i, hi, hz, hsz, hby⟩ := info_parts E.info
  subst hsz
  subst hby
  have hsmall : sLen + n ≤ 9223372036854775807 := by simp only [maxLen] at h63; omega
  have hn : ¬ (sLen + n ≤ sCap) := by omega
  have h63' : ¬ (9223372036854775807 < ((sLen : Int) + (n : Int))) := by omega
  have hw : IntKind.i64.wrap (n : Int) = n := by rw [IntKind.wrap_i64]; omega
  have hfit := growslice_fits hg hbytes
  have h48' : ¬ (281474976710656 < Builtin.nextslicecap (sLen + n) sCap * i.bytes) := by omega
  have hnb : n * i.bytes ≤ 140737488355328 := Nat.le_trans (Nat.mul_le_mul_right _ (by omega)) hbytes
  have h48i : ¬ (281474976710656 < (n : Int) * (i.bytes : Int)) := by
    rw [← Int.natCast_mul]
    omega
  have hneg : ¬ ((n : Int) < 0) := by omega
  have hfo := run_firstCells_some (P := P) w.drew i.size sLen b sLen sCap olds hlo (by simpa using holds)
  have hge := grownCap_ge w (sLen + n) sCap e
  refine ⟨grownCap w (sLen + n) sCap e, ?_, hge, grownCap_le_maxLen w (sLen + n) sCap e h63⟩
  have hzz : Builtin.zeroCells z.cells n ++ Builtin.zeroCells z.cells (grownCap w (sLen + n) sCap e - (sLen + n)) = Builtin.zeroCells z.cells (grownCap w (sLen + n) sCap e - sLen) := by
    generalize grownCap w (sLen + n) sCap e = C at *
    apply Array.ext
    · rw [Array.size_append, size_zeroCells, size_zeroCells, size_zeroCells, ← Nat.add_mul]
      congr 1; omega
    · intro j h1 h2
      rw [Array.getElem_append]
      split
      · simp [Builtin.zeroCells]
      · rename_i hj
        rw [size_zeroCells] at hj
        simp only [Builtin.zeroCells, Array.getElem_map, Array.getElem_range]
        congr 1
        have h3 : n * z.cells.size ≤ j := by omega
        simp only [Array.size_map, Array.size_range]
        rw [show j = n * z.cells.size + (j - n * z.cells.size) by omega, Nat.add_sub_cancel_left, Nat.mul_comm n, Nat.mul_add_mod]
  have hns : n * i.size = 0 → Builtin.zeroCells z.cells n = #[] := by
    intro h
    have : n = 0 := by
      rcases Nat.mul_eq_zero.1 h with h | h
      · exact h
      · have := E.pos; omega
    subst this
    simp [Builtin.zeroCells]
  rw [← hzz]
  by_cases h0 : n * i.size = 0
  · have e0 := hns h0
    simp [Builtin.append_, run_underlying E.under, run_underlying htn, sizeOf, typeInfo, zeroValue, hi, hz, asInt, asIntOf, hw, hn, hneg, h63', h48', h48i, Question.forced, hfo, newRow, grownCap, e0]
    congr 2
    apply Array.ext'
    simp
  · simp [Builtin.append_, run_underlying E.under, run_underlying htn, sizeOf, typeInfo, zeroValue, hi, hz, asInt, asIntOf, hw, hn, hneg, h0, h63', h48', h48i, Question.forced, hfo, newRow, grownCap]
    congr 2
    apply Array.ext'
    simp
/-- append WHOSE RUN IS KNOWN, as one step of a region that draws. -/
theorem step_append_run {P : Program} {ops : Array Oper} {o : Oper} {a : Act} {w : World} {K : Act → World → Prop} {Q : Exit → Act → World → Prop} {E : Prop}
    (hg : o.guard = none) (d x : Operand) (dT sT : TypeId) (hop : o.op = Op.call { callee := Callee.builtin Builtin.append, args := #[d, x], argTypes := #[dT, sT] })
    (v u : Value) (hd : a.eval d = v) (hx : a.eval x = u) {v' : Value} {w' : World} (hr : (Builtin.append_ #[dT, sT] o.type #[v, u]).run P w = .ok v' w') (hK : K (a.put o.dst v') w') :
    if Region.wanted o (yielded ops a.tmps) = true then Oper.wp P o a w K Q else E := by
  have hw : Region.wanted o (yielded ops a.tmps) = true := by simp [Region.wanted, hg]
  rw [if_pos hw]
  unfold Oper.wp
  simp [execOp, hop, resolve, invoke, builtin, hd, hx, hr, Result.andThen]
  exact hK
end
end Go.Proofs.Ytcjmkpphohkofaa
