/- table.of: what becomes of a number, by a table that does a linear map. -/
import Derived.Test.YtnnopakfnenjfaaDoorHas
import Derived.Shelf.Abstract
import Derived.RangeFuncCalls
import Derived.TacticsIn
import Derived.Shelf.RegionOpen
namespace Go.Proofs.YtnnopakfnenjfaaDoor
open Go.RowKit Go.Shelf
attribute [local go_sem] Oper.semAt_some

theorem has_c (x : BitVec 32) (w : World) : Calls Tryd.prog 21 #[.int .u32 (U x)] w fun e w' =>
    e = .returned (.func (.func 22) #[] #[.pointer (some ⟨w.heap.size, 0, none⟩)]) ∧ w' = w.alloc (.cells #[.int .u32 (U x)] 23) := by
  have h1 := U_nn x
  have h2 := U_lt32 x
  have hmf : ∀ (fn : Fn) (first cap : Array Value) (w : World), (Instr.makeFunc fn first cap).run Tryd.prog w = .ok (.func fn first cap) w := fun _ _ _ _ => rfl
  go_enter Tryd.func21, Tryd.ntmps21
  go_wp2_with fail
  go_ret
  exact ⟨rfl, rfl⟩

/-- A linear map. -/
def Lin (L : BitVec 32 → BitVec 32) : Prop := ∀ x y, L (x ^^^ y) = L x ^^^ L y
theorem Lin.zero {L : BitVec 32 → BitVec 32} (h : Lin L) : L 0#32 = 0#32 := by
  have := h 0#32 0#32
  simpa using this
/-- The cells of a table that does L. -/
def tabOf (L : BitVec 32 → BitVec 32) : Array Value := ((List.range 32).map fun i : Nat => Value.int .u32 (U (L (1#32 <<< i)))).toArray
theorem tabOf_size (L : BitVec 32 → BitVec 32) : (tabOf L).size = 32 := by simp [tabOf]
theorem tabOf_at (L : BitVec 32 → BitVec 32) {i : Nat} (h : i < 32) : (tabOf L)[i]? = some (.int .u32 (U (L (1#32 <<< i)))) := by
  simp [tabOf, h]

/-- The bits that are still to come. -/
theorem chain_rest {x : BitVec 32} {l : List Nat} (h : Chain x l) : ∀ k, k ≤ l.length → ∃ z, Chain z (l.drop k) := by
  induction h with
  | nil => intro k hk; simp at hk; subst hk; exact ⟨_, .nil⟩
  | cons h1 h2 ih =>
    intro k hk
    cases k with
    | zero => exact ⟨_, .cons h1 h2⟩
    | succ k => simpa using ih k (by simpa using hk)

theorem Chain.inj {l : List Nat} : ∀ {x y : BitVec 32}, Chain x l → Chain y l → x = y := by
  induction l with
  | nil => intro x y hx hy; cases hx; cases hy; rfl
  | cons i l ih =>
    intro x y hx hy
    cases hx with
    | cons _ h1 =>
      cases hy with
      | cons _ h2 =>
        have := ih h1 h2
        have h3 := congrArg (· ^^^ (1#32 <<< i)) this
        simpa [BitVec.xor_assoc] using h3

set_option maxHeartbeats 1000000 in
theorem of_c (L : BitVec 32 → BitVec 32) (hL : Lin L) (x : BitVec 32) (b : Nat) (w : World) (ht : Tab w) (ty : TypeId) (hb : w.heap[b]? = some (.cells (tabOf L) ty)) :
    Calls Tryd.prog 18 #[.pointer (some ⟨b, 0, none⟩), .int .u32 (U x)] w fun e w' => e = .returned (.int .u32 (U (L x))) ∧ Kp no w w' := by
  have h1 := U_nn x
  have h2 := U_lt32 x
  obtain ⟨l, hl⟩ := chain_ex x
  refine calls_of_marks Tryd.func18 rfl ?_
  simp only [Tryd.ntmps18, List.size_toArray, List.length_cons, List.length_nil, Nat.reduceAdd, Nat.reduceSub, Array.replicate_succ, Array.replicate_zero, List.push_toArray, List.append_toArray, List.nil_append, List.cons_append]
  have hb' := Lib.hid hb
  have ht' := Lib.hid ht
  clear hb ht
  gi_wp2_with fail
  refine ⟨trivial, rfl, calls_in ((has_c x _).mono ?_)⟩
  rintro e w1 ⟨rfl, rfl⟩
  gi_wp2_with fail
  obtain ⟨n, hn⟩ : ∃ n, w.heap.size = n := ⟨_, rfl⟩
  generalize hW : (((w.alloc (Obj.cells #[Value.pointer (some { block := b, off := 0 })] 42)).alloc (Obj.cells #[Value.int IntKind.u32 0] 23)).alloc (Obj.cells #[Value.int IntKind.u32 (U x)] 23)) = W
  rw [hn]
  have hk : Kp no w W := by rw [← hW]; exact (((Kp.refl no w).alloc _).alloc _).alloc _
  have hsz : W.heap.size = n + 3 := by rw [← hW]; simp only [World.size_alloc]; omega
  have hB : W.heap[b]? = some (.cells (tabOf L) ty) := hk.at hb'.out fun h => h
  have hT : W.heap[n]? = some (.cells #[.pointer (some ⟨b, 0, none⟩)] 42) := by
    rw [← hW, ← hn]; exact blk_alloc (blk_alloc (blk_new _ _) _) _
  have hR : W.heap[n + 1]? = some (.cells #[.int .u32 0] 23) := by
    rw [← hW, ← hn]; exact blk_alloc (by rw [← World.size_alloc]; exact blk_new _ _) _
  have hX : W.heap[n + 2]? = some (.cells #[.int .u32 (U x)] 23) := by
    rw [← hW, ← hn, show w.heap.size + 2 = w.heap.size + 1 + 1 from rfl, ← World.size_alloc w (Obj.cells #[Value.pointer (some { block := b, off := 0 })] 42), ← World.size_alloc (w.alloc (Obj.cells #[Value.pointer (some { block := b, off := 0 })] 42)) (Obj.cells #[Value.int IntKind.u32 0] 23)]; exact blk_new _ _
  have htW : Tab W := ht'.out.no hk
  have h0n : 0 < n := by rw [← hn]; exact ht'.out.lt
  have hbn : b < n := by rw [← hn]; exact blk_lt hb'.out
  refine wp_range (P := Tryd.prog) rfl (enters_of Tryd.func22 (by kernel_rfl) rfl) (has_gives x l hl (n + 2)) (by simp) (fun k => k = n + 1)
    (fun i V => Tab V ∧ V.heap[b]? = some (.cells (tabOf L) ty) ∧ V.heap[n]? = some (.cells #[.pointer (some ⟨b, 0, none⟩)] 42) ∧
      (∃ z, Chain z (l.drop i) ∧ V.heap[n + 1]? = some (.cells #[.int .u32 (U (L (x ^^^ z)))] 23)) ∧ Kp no w V)
    (fun _ _ => False) (by rintro k rfl; omega) (by rintro k rfl; omega) ?_ (fun _ _ _ h _ => h) (fun _ _ h => h.1) ?_ ?_
    (fun i => { tmps := #[.pointer (some ⟨b, 0, none⟩), .int .u32 (U x), .pointer (some ⟨n, 0, none⟩), undef, .pointer (some ⟨n + 1, 0, none⟩), .int .i64 (l.getD i 0 : Nat), .int .u32 (U x),
      .func (.func 22) #[] #[.pointer (some ⟨n + 1 + 1, 0, none⟩)], .int .i64 (l.getD i 0 : Nat), undef, undef, undef, undef, undef, undef, undef, undef], defers := [] }) ?_ ?_ ?_ ?_
  · rintro i A B ⟨i1, i2, i3, ⟨z, i4, i5⟩, i6⟩ hkk
    have hne : ∀ j, j ≤ n + 1 → ¬ (j = n + 2 ∨ j = W.heap.size ∨ j = W.heap.size + 1) := by intro j hj; omega
    exact ⟨i1.kept hkk (hne 0 (by omega)), hkk.at i2 (hne b (by omega)), hkk.at i3 (hne n (by omega)), ⟨z, i4, hkk.at i5 (hne _ (by omega))⟩,
      i6.then hkk (fun _ _ h => h.elim) (fun j hj h => by omega)⟩
  · intro B hB'
    exact ⟨htW.no hB', hB'.at hX fun h => h⟩
  · refine ⟨htW, hB, hT, ⟨x, by simpa using hl, ?_⟩, hk⟩
    rw [BitVec.xor_self, hL.zero]; exact hR
  · intro i hi V K hK
    have hil : i < l.length := by simpa using hi
    have e : (l.map fun i : Nat => #[Value.int .i64 (i : Int)])[i] = #[Value.int .i64 (l.getD i 0 : Nat)] := by simp [hil]
    have e2 : l.getD i 0 = l[i] := by simp [hil]
    rw [e]
    rw [e2] at hK ⊢
    gi_wp2
    exact hK
  · rintro i hi V hlt ⟨i1, i2, i3, ⟨z, i4, i5⟩, i6⟩
    have hil : i < l.length := by simpa using hi
    have hdr := List.drop_eq_getElem_cons hil
    have hg : l.getD i 0 = l[i] := by simp [hil]
    have hg32 : l.getD i 0 < 32 := by rw [hg]; exact hl.lt _ (List.getElem_mem hil)
    rw [hdr] at i4
    obtain ⟨z', ez⟩ : ∃ z', z' = z ^^^ (1#32 <<< (l.getD i 0)) := ⟨_, rfl⟩
    have i4' : Chain z' (l.drop (i + 1)) := by
      cases i4 with
      | cons h1 h2 => rw [ez, hg]; exact h2
    have hnew : U (L (x ^^^ z)) ≥ 0 ∧ bits .xor .u32 (U (L (x ^^^ z))) (U (L (1#32 <<< (l.getD i 0)))) = U (L (x ^^^ z')) := by
      refine ⟨U_nn _, ?_⟩
      rw [xor32, ← hL, ez, BitVec.xor_assoc]
    obtain ⟨j, ej⟩ : ∃ j, l.getD i 0 = j := ⟨_, rfl⟩
    rw [ej] at hg32 hnew ⊢
    have cT : V.cell? ⟨n, 0, none⟩ = some (.pointer (some ⟨b, 0, none⟩)) := blk_cell i3 0 _ rfl
    have cR : V.cell? ⟨n + 1, 0, none⟩ = some (.int .u32 (U (L (x ^^^ z)))) := blk_cell i5 0 _ rfl
    have fR : V.frozen? ⟨n + 1, 0, none⟩ = false := blk_frozen i5 0
    have cB : V.cell? ⟨b, j, none⟩ = some (.int .u32 (U (L (1#32 <<< j)))) := blk_cell i2 j _ (tabOf_at L hg32)
    have hnew' := Lib.hid hnew.2
    have i5' := Lib.hid i5
    have i2' := Lib.hid i2
    have i3' := Lib.hid i3
    clear hnew i2 i3 i5 hdr hg ez i4 hW hT hR hX hB hb' ej
    have hfin : ∀ V', V' = (V.setCell ⟨n + 1, 0, none⟩ (.int .u32 (bits .xor .u32 (U (L (x ^^^ z))) (U (L (1#32 <<< j)))))).drew → Kp (fun k => k = n + 1) V V' ∧ (Tab V' ∧ V'.heap[b]? = some (.cells (tabOf L) ty) ∧ V'.heap[n]? = some (.cells #[.pointer (some ⟨b, 0, none⟩)] 42) ∧
      (∃ z, Chain z (l.drop (i + 1)) ∧ V'.heap[n + 1]? = some (.cells #[.int .u32 (U (L (x ^^^ z)))] 23)) ∧ Kp no w V') := by
      rintro V' rfl
      rw [hnew'.out]
      have hk : Kp (fun k => k = n + 1) V ((V.setCell ⟨n + 1, 0, none⟩ (.int .u32 (U (L (x ^^^ z'))))).drew) := (Kp.setCell (p := ⟨n + 1, 0, none⟩) (Kp.refl (fun k => k = n + 1) V) (.inl rfl) _).drew
      exact ⟨hk, i1.kept hk (by omega), hk.at i2'.out (by omega), hk.at i3'.out (by omega), ⟨z', i4', blk_drew (blk_setCell i5'.out 0 _)⟩, i6.then hk (fun _ _ h => h.elim) (fun k hk h => by omega)⟩
    have hfin' := Lib.hid hfin
    clear hfin
    have hmx : Tryd.prog.follows .mixedOrders = true := by kernel_rfl
    gi_wp2
    gi_region_with_o (fail)
    all_goals gi_wp2_with (fail)
    all_goals exact hfin'.out _ rfl
  · rintro V ⟨i1, i2, i3, ⟨z, i4, i5⟩, i6⟩ hK
    rw [List.length_map, List.drop_length] at i4
    have hz : z = 0#32 := by cases i4; rfl
    subst hz
    rw [BitVec.xor_zero] at i5
    have cR : V.cell? ⟨n + 1, 0, none⟩ = some (.int .u32 (U (L x))) := blk_cell i5 0 _ rfl
    have fR : V.frozen? ⟨n + 1, 0, none⟩ = false := blk_frozen i5 0
    have h3 := U_nn (L x)
    have h4 := U_lt32 (L x)
    have hfin : ∀ V', V' = (V.setCell ⟨n + 1, 0, none⟩ (.int .u32 (U (L x)))).putObj W.heap.size (.deferred none) → V'.cell? ⟨n + 1, 0, none⟩ = some (.int .u32 (U (L x))) ∧ Kp no w V' := by
      rintro V' rfl
      have e1 : (V.setCell ⟨n + 1, 0, none⟩ (.int .u32 (U (L x)))).heap[n + 1]? = some (.cells #[.int .u32 (U (L x))] 23) := blk_setCell i5 0 _
      refine ⟨blk_cell (by rw [World.putObj_heap_other (by omega)]; exact e1) 0 _ rfl, Kp.putObj (i6.then (Kp.setCell (p := ⟨n + 1, 0, none⟩) (Kp.refl (fun k => k = n + 1) V) (.inl rfl) _) (fun _ _ h => h.elim) (fun k hk h => by omega)) (.inr (by omega)) _⟩
    have hK' : (V.setCell ⟨n + 1, 0, none⟩ (.int .u32 (U (L x)))).heap[W.heap.size]? = some (.deferred (some [])) := by
      rw [blk_setCell_other (by simp; omega)]; exact hK
    have hfin' := Lib.hid hfin
    clear hfin i5 i2 i3 hT hR hX hB hW hb' hK
    gi_wp2_with (fail)
    refine leave_one hK' ?_ ⟨rfl, (hfin'.out _ rfl).2⟩
    have hc := (hfin'.out _ rfl).1
    simp [results, Tryd.results18, go_sem, hc]
  · intro c V h _
    exact h.elim
end Go.Proofs.YtnnopakfnenjfaaDoor
