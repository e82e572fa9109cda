/- The lowest bit of a number; the table of TrailingZeros64. -/
import Derived.Test.YtkoajbmomipjkaaDoorRows
import Derived.Test.YtkoajbmomipjkaaDoorBv
namespace Go.Proofs.YtkoajbmomipjkaaDoor
open Go.RowKit

/-- i is the lowest bit of x. -/
def IsLow (x : BitVec 64) (i : Nat) : Prop := i < 64 ∧ x.getLsbD i = true ∧ ∀ j, j < i → x.getLsbD j = false

theorem low_ex_go {x : BitVec 64} : ∀ i, x.getLsbD i = true → ∃ k, k ≤ i ∧ x.getLsbD k = true ∧ ∀ j, j < k → x.getLsbD j = false := by
  intro i
  induction i using Nat.strongRecOn with
  | _ i ih =>
    intro h
    by_cases he : ∃ j, j < i ∧ x.getLsbD j = true
    · obtain ⟨j, hj, hx⟩ := he
      obtain ⟨k, hk, h2, h3⟩ := ih j hj hx
      exact ⟨k, by omega, h2, h3⟩
    · refine ⟨i, Nat.le_refl _, h, fun j hj => ?_⟩
      cases hb : x.getLsbD j
      · rfl
      · exact (he ⟨j, hj, hb⟩).elim

theorem low_ex {x : BitVec 64} (h : x ≠ 0#64) : ∃ i, IsLow x i := by
  have : ∃ i, x.getLsbD i = true := by
    refine Classical.byContradiction fun hn => h (BitVec.eq_of_getLsbD_eq fun i _ => ?_)
    cases hb : x.getLsbD i
    · simp
    · exact (hn ⟨i, hb⟩).elim
  obtain ⟨i, hi⟩ := this
  obtain ⟨k, _, h2, h3⟩ := low_ex_go i hi
  exact ⟨k, BitVec.lt_of_getLsbD h2, h2, h3⟩

theorem IsLow.below {x : BitVec 64} {i : Nat} (h : IsLow x i) (j : Nat) : (∃ k, k < j ∧ x.getLsbD k = true) ↔ i < j := by
  constructor
  · rintro ⟨k, hk, hx⟩
    by_cases hki : k < i
    · rw [h.2.2 k hki] at hx; cases hx
    · omega
  · intro hj; exact ⟨i, hj, h.2.1⟩

theorem IsLow.and_neg {x : BitVec 64} {i : Nat} (h : IsLow x i) : x &&& -x = 1#64 <<< i := by
  apply BitVec.eq_of_getLsbD_eq
  intro j hj
  rw [BitVec.getLsbD_and, BitVec.getLsbD_neg, BitVec.getLsbD_shiftLeft, BitVec.getLsbD_one]
  have hb := h.below j
  simp only [hb, hj, decide_true, Bool.true_and]
  by_cases hji : j < i
  · simp [h.2.2 j hji, hji]
  · by_cases he : j = i
    · subst he; simp [h.2.1]
    · have : i < j := by omega
      have h1 : ¬ j - i = 0 := by omega
      have h2 : j - i < 64 := by omega
      cases hx : x.getLsbD j <;> simp [this, h1]

theorem IsLow.and_pred {x : BitVec 64} {i : Nat} (h : IsLow x i) : x &&& (x - 1#64) = x ^^^ (1#64 <<< i) := by
  have hp : x - 1#64 = ~~~ (-x) := by
    rw [BitVec.neg_eq_not_add, BitVec.not_add_one, BitVec.not_not]
  apply BitVec.eq_of_getLsbD_eq
  intro j hj
  rw [hp, BitVec.getLsbD_and, BitVec.getLsbD_not, BitVec.getLsbD_neg, BitVec.getLsbD_xor, BitVec.getLsbD_shiftLeft, BitVec.getLsbD_one]
  have hb := h.below j
  simp only [hb, hj, decide_true, Bool.true_and]
  by_cases hji : j < i
  · simp [h.2.2 j hji, hji]
  · by_cases he : j = i
    · subst he; simp [h.2.1]
    · have : i < j := by omega
      have h1 : ¬ j - i = 0 := by omega
      cases hx : x.getLsbD j <;> simp [this, h1, hji]

theorem IsLow.less {x : BitVec 64} {i : Nat} (h : IsLow x i) : (x ^^^ (1#64 <<< i)).toNat < x.toNat := by
  rw [← h.and_pred, BitVec.toNat_and]
  have h0 : x.toNat ≠ 0 := fun e => by
    have : x = 0#64 := BitVec.eq_of_toNat_eq (by simpa using e)
    have h2 := h.2.1
    rw [this] at h2; simp at h2
  have h1 : (x - 1#64).toNat = x.toNat - 1 := by
    rw [BitVec.toNat_sub]; have := x.isLt; simp; omega
  rw [h1]
  have := @Nat.and_le_right x.toNat (x.toNat - 1)
  omega

/-- The bits of a number, from the lowest up. -/
inductive Chain : BitVec 64 → List Nat → Prop
  | nil : Chain 0#64 []
  | cons {x : BitVec 64} {i : Nat} {l : List Nat} : IsLow x i → Chain (x ^^^ (1#64 <<< i)) l → Chain x (i :: l)

theorem chain_ex (x : BitVec 64) : ∃ l, Chain x l := by
  generalize hn : x.toNat = n
  induction n using Nat.strongRecOn generalizing x with
  | _ n ih =>
    by_cases h : x = 0#64
    · subst h; exact ⟨[], .nil⟩
    · obtain ⟨i, hi⟩ := low_ex h
      have hlt := hi.less
      obtain ⟨l, hl⟩ := ih (x ^^^ (1#64 <<< i)).toNat (by omega) _ rfl
      exact ⟨i :: l, .cons hi hl⟩

theorem Chain.zero {l : List Nat} (h : Chain 0#64 l) : l = [] := by
  cases h with
  | nil => rfl
  | cons h1 _ => have h2 := h1.2.1; simp at h2

theorem Chain.some {x : BitVec 64} {l : List Nat} (h : Chain x l) (h0 : x ≠ 0#64) : ∃ i l', l = i :: l' ∧ IsLow x i ∧ Chain (x ^^^ (1#64 <<< i)) l' := by
  cases h with
  | nil => exact (h0 rfl).elim
  | cons h1 h2 => exact ⟨_, _, rfl, h1, h2⟩

theorem Chain.lt {x : BitVec 64} {l : List Nat} (h : Chain x l) : ∀ i ∈ l, i < 64 := by
  induction h with
  | nil => intro i hi; cases hi
  | cons h1 _ ih =>
    intro i hi
    rcases List.mem_cons.1 hi with rfl | hi
    · exact h1.1
    · exact ih i hi

def tz64 : List Int := [0, 1, 56, 2, 57, 49, 28, 3, 61, 58, 42, 50, 38, 29, 17, 4, 62, 47, 59, 36, 45, 43, 51, 22, 53, 39, 33, 30, 24, 18, 12, 5, 63, 55, 48, 27, 60, 41, 37, 16, 46, 35, 44, 21, 52, 32, 23, 11, 54, 26, 40, 15, 34, 20, 31, 10, 25, 14, 19, 9, 13, 8, 7, 6]
def tzAt (i : Nat) : Nat := (U (1#64 <<< i) * 285870213051353865 % 18446744073709551616 / 288230376151711744).toNat
theorem tz_all : ∀ i : Fin 64, U (1#64 <<< i.val) * 285870213051353865 % 18446744073709551616 / 288230376151711744 = (tzAt i.val : Int) ∧ tzAt i.val < 64 ∧ tz64.getD (tzAt i.val) 0 = (i.val : Int) := by decide +kernel

end Go.Proofs.YtkoajbmomipjkaaDoor
