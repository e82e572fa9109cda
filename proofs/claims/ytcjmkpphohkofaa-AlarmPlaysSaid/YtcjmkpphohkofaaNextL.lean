/- What Next tells: plain laws. -/
import Derived.Test.YtcjmkpphohkofaaOpenO
import Derived.Laws.BitsLemmas
import Derived.IntWalk
namespace Go.Proofs.Ytcjmkpphohkofaa
open Go.RowKit
set_option linter.unusedVariables false

theorem leastK_le (b : Int) : ∀ (l : List Al), leastK b l ≤ b ∧ ∀ x ∈ l, leastK b l ≤ x.left := by
  intro l
  unfold leastK
  have key : ∀ (l : List Al) (b : Int), l.foldl (fun m x => min m x.left) b ≤ b ∧ ∀ x ∈ l, l.foldl (fun m x => min m x.left) b ≤ x.left := by
    intro l
    induction l with
    | nil => exact fun b => ⟨Int.le_refl _, fun x hx => by cases hx⟩
    | cons y l ih =>
      intro b
      obtain ⟨h1, h2⟩ := ih (min b y.left)
      rw [List.foldl_cons]
      refine ⟨by omega, fun x hx => ?_⟩
      rcases List.mem_cons.1 hx with rfl | hx
      · omega
      · exact h2 x hx
  exact key l b
theorem leastK_is (b : Int) : ∀ (l : List Al), leastK b l = b ∨ ∃ x ∈ l, x.left = leastK b l := by
  intro l
  unfold leastK
  have key : ∀ (l : List Al) (b : Int), l.foldl (fun m x => min m x.left) b = b ∨ ∃ x ∈ l, x.left = l.foldl (fun m x => min m x.left) b := by
    intro l
    induction l with
    | nil => exact fun b => .inl rfl
    | cons y l ih =>
      intro b
      rw [List.foldl_cons]
      rcases ih (min b y.left) with h | ⟨x, hx, h⟩
      · rw [h]
        rcases Int.le_total b y.left with h1 | h1
        · exact .inl (by omega)
        · exact .inr ⟨y, by simp, by omega⟩
      · exact .inr ⟨x, List.mem_cons_of_mem _ hx, h⟩
  exact key l b
theorem leastK_has {R : Int} {s : Ck} (h : CkOk R s) (hl : s.l ≠ []) : ∃ x ∈ s.l, x.left = leastK s.b s.l := by
  rcases leastK_is s.b s.l with h1 | h1
  · obtain ⟨x, hx⟩ := List.exists_mem_of_ne_nil _ hl
    have h2 := (leastK_le s.b s.l).2 x hx
    exact ⟨x, hx, by have := (h.all x hx).left.2; omega⟩
  · exact h1
theorem leastK_bd {R : Int} {s : Ck} (h : CkOk R s) (hl : s.l ≠ []) : 1 ≤ leastK s.b s.l ∧ leastK s.b s.l ≤ 65536 := by
  obtain ⟨x, hx, e⟩ := leastK_has h hl
  have h1 := (h.all x hx).left
  have h2 := h.b
  omega
def decA (j : Nat) (x : Al) : Al := ⟨x.key, x.wait, x.left - j, x.rung⟩
theorem tickN_dec {s : Ck} : ∀ (j : Nat), (∀ x ∈ s.l, (j : Int) < x.left) → (tickN j s).l = s.l.map (decA j) ∧ (tickN j s).b = s.b ∧ (tickN j s).a = s.a
  | 0, _ => ⟨by
      show s.l = _
      refine (List.map_id _).symm.trans (List.map_congr_left fun x _ => ?_)
      unfold decA
      simp, rfl, rfl⟩
  | j + 1, h => by
    obtain ⟨h1, h2, h3⟩ := tickN_dec (s := s) j (fun x hx => by have := h x hx; omega)
    refine ⟨?_, h2, h3⟩
    show (tickN j s).l.map (tk (tickN j s).b) = _
    rw [h1, List.map_map]
    refine List.map_congr_left fun x hx => ?_
    have := h x hx
    show tk _ (decA j x) = decA (j + 1) x
    unfold tk decA
    rw [if_pos (by dsimp only; omega)]
    dsimp only
    congr 1
    omega
theorem rt_none {s : Ck} : ∀ (j : Nat), (∀ x ∈ s.l, (j : Int) < x.left) → rtK s j = []
  | 0, _ => rfl
  | j + 1, h => by
    have h0 : ∀ x ∈ s.l, (j : Int) < x.left := fun x hx => by have := h x hx; omega
    unfold rtK
    rw [rt_none j h0, (tickN_dec j h0).1]
    have : ringsK (s.l.map (decA j)) = [] := by
      unfold ringsK
      rw [filter_none fun y hy => by
        obtain ⟨x, hx, rfl⟩ := List.mem_map.1 hy
        have := h x hx
        unfold ringP decA
        simp; omega]
      rfl
    rw [this]
    rfl
/-- Those of which n are left. -/
def firstK (l : List Al) (n : Int) : List Int := keysK (l.filter fun x => decide (x.left = n))
theorem rings_first {s : Ck} {j : Nat} (h : ∀ x ∈ s.l, (j : Int) < x.left) : ringsK (tickN j s).l = firstK s.l (j + 1) := by
  rw [(tickN_dec j h).1]
  unfold ringsK firstK keysK
  rw [List.filter_map, List.map_map]
  have e : s.l.filter (ringP ∘ decA j) = s.l.filter fun x => decide (x.left = (j : Int) + 1) := List.filter_congr fun x hx => by
    have := h x hx
    show ringP (decA j x) = _
    unfold ringP decA
    dsimp only
    by_cases h2 : x.left = (j : Int) + 1
    · simp [h2]; omega
    · have : 1 < x.left - (j : Int) := by omega
      simp [h2, this]
  rw [e]
  rfl
theorem first_take {l : List Al} {n : Int} {i : Nat} (hi : i < l.length) : firstK (l.take (i + 1)) n = firstK (l.take i) n ++ if (l[i]'hi).left = n then [(l[i]'hi).key] else [] := by
  rw [List.take_succ_eq_append_getElem hi]
  unfold firstK keysK
  rw [List.filter_append, List.map_append]
  congr 1
  by_cases h : (l[i]'hi).left = n
  · simp [h]
  · simp [h]
theorem first_has {R : Int} {s : Ck} (h : CkOk R s) (hl : s.l ≠ []) : firstK s.l (leastK s.b s.l) ≠ [] := by
  obtain ⟨x, hx, e⟩ := leastK_has h hl
  intro h0
  have : x.key ∈ firstK s.l (leastK s.b s.l) := List.mem_map.2 ⟨x, List.mem_filter.2 ⟨hx, by simpa using e⟩, rfl⟩
  rw [h0] at this
  cases this
theorem and15 (z : Int) : ∃ r : Nat, r ≤ 15 ∧ bits .and .i64 z 15 = r := by
  refine ⟨(BitVec.ofInt 64 z &&& BitVec.ofInt 64 15).toNat, ?_, ?_⟩
  · rw [BitVec.toNat_and]
    exact Nat.and_le_right
  · have h : (BitVec.ofInt 64 z &&& BitVec.ofInt 64 15).toNat ≤ 15 := by
      rw [BitVec.toNat_and]
      exact Nat.and_le_right
    show IntKind.i64.wrap (((BitVec.ofInt 64 z &&& BitVec.ofInt 64 15).toNat : Nat) : Int) = _
    exact IntWalk.i64_in _ ⟨by omega, by omega⟩
/-- What a call does. -/
def playS (s : Ck) (o : OpI) (r : Nat) : Ck := if o.kind = 0 then setS s o.key else if o.kind = 1 then dropS s o.key else if o.kind = 2 then calmS s o.key else if o.kind = 4 then tickN r s else s
end Go.Proofs.Ytcjmkpphohkofaa
