/- The lowest bit of a number; the table of TrailingZeros32. -/
import Derived.Test.YtnnopakfnenjfaaDoorRows
import Derived.Test.YtnnopakfnenjfaaDoorBv
namespace Go.Proofs.YtnnopakfnenjfaaDoor
open Go.RowKit

/-- i is the lowest bit of x. -/
def IsLow (x : BitVec 32) (i : Nat) : Prop := i < 32 ∧ x.getLsbD i = true ∧ ∀ j, j < i → x.getLsbD j = false

theorem low_ex_go {x : BitVec 32} : ∀ i, x.getLsbD i = true → ∃ k, k ≤ i ∧ x.getLsbD k = true ∧ ∀ j, j < k → x.getLsbD j = false := by
  intro i
  induction i using Nat.strongRecOn with
  | _ i ih =>
    intro h
    by_cases he : ∃ j, j < i ∧ x.getLsbD j = true
    · obtain ⟨j, hj, hx⟩ := he
      obtain ⟨k, hk, h2, h3⟩ := ih j hj hx
      exact ⟨k, by omega, h2, h3⟩
    · refine ⟨i, Nat.le_refl _, h, fun j hj => ?_⟩
      cases hb : x.getLsbD j
      · rfl
      · exact (he ⟨j, hj, hb⟩).elim

theorem low_ex {x : BitVec 32} (h : x ≠ 0#32) : ∃ i, IsLow x i := by
  have : ∃ i, x.getLsbD i = true := by
    refine Classical.byContradiction fun hn => h (BitVec.eq_of_getLsbD_eq fun i _ => ?_)
    cases hb : x.getLsbD i
    · simp
    · exact (hn ⟨i, hb⟩).elim
  obtain ⟨i, hi⟩ := this
  obtain ⟨k, _, h2, h3⟩ := low_ex_go i hi
  exact ⟨k, BitVec.lt_of_getLsbD h2, h2, h3⟩

theorem IsLow.below {x : BitVec 32} {i : Nat} (h : IsLow x i) (j : Nat) : (∃ k, k < j ∧ x.getLsbD k = true) ↔ i < j := by
  constructor
  · rintro ⟨k, hk, hx⟩
    by_cases hki : k < i
    · rw [h.2.2 k hki] at hx; cases hx
    · omega
  · intro hj; exact ⟨i, hj, h.2.1⟩

theorem IsLow.and_neg {x : BitVec 32} {i : Nat} (h : IsLow x i) : x &&& -x = 1#32 <<< i := by
  apply BitVec.eq_of_getLsbD_eq
  intro j hj
  rw [BitVec.getLsbD_and, BitVec.getLsbD_neg, BitVec.getLsbD_shiftLeft, BitVec.getLsbD_one]
  have hb := h.below j
  simp only [hb, hj, decide_true, Bool.true_and]
  by_cases hji : j < i
  · simp [h.2.2 j hji, hji]
  · by_cases he : j = i
    · subst he; simp [h.2.1]
    · have : i < j := by omega
      have h1 : ¬ j - i = 0 := by omega
      have h2 : j - i < 32 := by omega
      cases hx : x.getLsbD j <;> simp [this, h1]

theorem IsLow.and_pred {x : BitVec 32} {i : Nat} (h : IsLow x i) : x &&& (x - 1#32) = x ^^^ (1#32 <<< i) := by
  have hp : x - 1#32 = ~~~ (-x) := by
    rw [BitVec.neg_eq_not_add, BitVec.not_add_one, BitVec.not_not]
  apply BitVec.eq_of_getLsbD_eq
  intro j hj
  rw [hp, BitVec.getLsbD_and, BitVec.getLsbD_not, BitVec.getLsbD_neg, BitVec.getLsbD_xor, BitVec.getLsbD_shiftLeft, BitVec.getLsbD_one]
  have hb := h.below j
  simp only [hb, hj, decide_true, Bool.true_and]
  by_cases hji : j < i
  · simp [h.2.2 j hji, hji]
  · by_cases he : j = i
    · subst he; simp [h.2.1]
    · have : i < j := by omega
      have h1 : ¬ j - i = 0 := by omega
      cases hx : x.getLsbD j <;> simp [this, h1, hji]

theorem IsLow.less {x : BitVec 32} {i : Nat} (h : IsLow x i) : (x ^^^ (1#32 <<< i)).toNat < x.toNat := by
  rw [← h.and_pred, BitVec.toNat_and]
  have h0 : x.toNat ≠ 0 := fun e => by
    have : x = 0#32 := BitVec.eq_of_toNat_eq (by simpa using e)
    have h2 := h.2.1
    rw [this] at h2; simp at h2
  have h1 : (x - 1#32).toNat = x.toNat - 1 := by
    rw [BitVec.toNat_sub]; have := x.isLt; simp; omega
  rw [h1]
  have := @Nat.and_le_right x.toNat (x.toNat - 1)
  omega

/-- The bits of a number, from the lowest up. -/
inductive Chain : BitVec 32 → List Nat → Prop
  | nil : Chain 0#32 []
  | cons {x : BitVec 32} {i : Nat} {l : List Nat} : IsLow x i → Chain (x ^^^ (1#32 <<< i)) l → Chain x (i :: l)

theorem chain_ex (x : BitVec 32) : ∃ l, Chain x l := by
  generalize hn : x.toNat = n
  induction n using Nat.strongRecOn generalizing x with
  | _ n ih =>
    by_cases h : x = 0#32
    · subst h; exact ⟨[], .nil⟩
    · obtain ⟨i, hi⟩ := low_ex h
      have hlt := hi.less
      obtain ⟨l, hl⟩ := ih (x ^^^ (1#32 <<< i)).toNat (by omega) _ rfl
      exact ⟨i :: l, .cons hi hl⟩

theorem Chain.zero {l : List Nat} (h : Chain 0#32 l) : l = [] := by
  cases h with
  | nil => rfl
  | cons h1 _ => have h2 := h1.2.1; simp at h2

theorem Chain.some {x : BitVec 32} {l : List Nat} (h : Chain x l) (h0 : x ≠ 0#32) : ∃ i l', l = i :: l' ∧ IsLow x i ∧ Chain (x ^^^ (1#32 <<< i)) l' := by
  cases h with
  | nil => exact (h0 rfl).elim
  | cons h1 h2 => exact ⟨_, _, rfl, h1, h2⟩

theorem Chain.lt {x : BitVec 32} {l : List Nat} (h : Chain x l) : ∀ i ∈ l, i < 32 := by
  induction h with
  | nil => intro i hi; cases hi
  | cons h1 _ ih =>
    intro i hi
    rcases List.mem_cons.1 hi with rfl | hi
    · exact h1.1
    · exact ih i hi

def tz32 : List Int := [0, 1, 28, 2, 29, 14, 24, 3, 30, 22, 20, 15, 25, 17, 4, 8, 31, 27, 13, 23, 21, 19, 16, 7, 26, 12, 18, 6, 11, 5, 10, 9]
def tzAt (i : Nat) : Nat := (U (1#32 <<< i) * 125613361 % 4294967296 / 134217728).toNat
theorem tz_all : ∀ i : Fin 32, U (1#32 <<< i.val) * 125613361 % 4294967296 / 134217728 = (tzAt i.val : Int) ∧ tzAt i.val < 32 ∧ tz32.getD (tzAt i.val) 0 = (i.val : Int) := by decide +kernel

end Go.Proofs.YtnnopakfnenjfaaDoor
