/- The plain arithmetic of products and quotients of fixed. Nothing here names the program. -/
import Derived.Test.YtpjapjddfldniaaSums
namespace Go.Proofs.Ytpjapjddfldniaa

/-- What a quotient rounded down is, when it may be (inV, inE), of numbers that may be. -/
def mulV (a b : Int) : Int := if (inB a && inB b) then inV (a * b / 65536) else 0
def mulE (a b : Int) : Int := if (inB a && inB b) then inE (a * b / 65536) else 10
def divQ (a b : Int) : Int := if b < 0 then -a * 65536 / -b else a * 65536 / b
def divV (a b : Int) : Int := if b = 0 then 0 else if (inB a && inB b) then inV (divQ a b) else 0
def divE (a b : Int) : Int := if b = 0 then 11 else if (inB a && inB b) then inE (divQ a b) else 10

theorem inV_of {x : Int} (h : inB x = true) : inV x = x := by simp [inV, h]
theorem inE_of {x : Int} (h : inB x = true) : inE x = 0 := by simp [inE, h]
theorem inV_no {x : Int} (h : inB x = false) : inV x = 0 := by simp [inV, h]
theorem inE_no {x : Int} (h : inB x = false) : inE x = 10 := by simp [inE, h]

/-- A number without its sign by another one, with the sign put back, rounded down. -/
def sq (N y : Nat) (neg : Bool) : Int := if neg then -((N : Nat) : Int) / (y : Int) else ((N / y : Nat) : Int)

theorem sq_neg (N y : Nat) (hy : 0 < y) : sq N y true = if N % y = 0 then -((N / y : Nat) : Int) else -((N / y : Nat) : Int) - 1 := by
  have e := Nat.div_add_mod N y
  have l := Nat.mod_lt N hy
  unfold sq
  simp only [if_true]
  generalize N / y = q at *
  generalize N % y = r at *
  subst e
  split
  · rename_i h; subst h
    rw [Nat.add_zero, Int.natCast_mul, Int.mul_comm, ← Int.neg_mul]
    exact Int.mul_ediv_cancel _ (by omega)
  · rename_i h
    have : -((y * q + r : Nat) : Int) = (y : Int) * (-(q : Int) - 1) + ((y : Int) - r) := by
      rw [Int.mul_sub, Int.mul_neg, Int.natCast_add, Int.natCast_mul]; omega
    rw [this, Int.mul_add_ediv_left _ _ (show (y : Int) ≠ 0 by omega), Int.ediv_eq_zero_of_lt (by omega) (by omega)]
    omega

theorem sq_big (h l y : Nat) (neg : Bool) (hy : 0 < y) (hh : y ≤ h) : inB (sq (h * 18446744073709551616 + l) y neg) = false := by
  have : 18446744073709551616 ≤ (h * 18446744073709551616 + l) / y := by
    rw [Nat.le_div_iff_mul_le hy]; omega
  rw [inB_not]
  generalize h * 18446744073709551616 + l = N at *
  cases neg
  · have e : sq N y false = ((N / y : Nat) : Int) := rfl
    rw [e]; omega
  · rw [sq_neg _ _ hy]; split <;> omega

theorem sq_t (N y : Nat) : sq N y true = -((N : Nat) : Int) / (y : Int) := rfl
theorem sq_f (N y : Nat) : sq N y false = ((N : Nat) : Int) / (y : Int) := rfl

/-- The signs of a product. -/
theorem sq_mul (a b : Int) : sq (a.natAbs * b.natAbs) 65536 (decide (a < 0) != decide (b < 0)) = a * b / 65536 := by
  have h1 : ((a.natAbs * b.natAbs : Nat) : Int) = (a.natAbs : Int) * (b.natAbs : Int) := Int.natCast_mul _ _
  by_cases ha : a < 0 <;> by_cases hb : b < 0
  · rw [show (decide (a < 0) != decide (b < 0)) = false by simp [ha, hb], sq_f, h1, Int.ofNat_natAbs_of_nonpos (by omega), Int.ofNat_natAbs_of_nonpos (by omega), Int.neg_mul_neg]; rfl
  · rw [show (decide (a < 0) != decide (b < 0)) = true by simp [ha, hb], sq_t, h1, Int.ofNat_natAbs_of_nonpos (by omega), Int.natAbs_of_nonneg (by omega), Int.neg_mul, Int.neg_neg]; rfl
  · rw [show (decide (a < 0) != decide (b < 0)) = true by simp [ha, hb], sq_t, h1, Int.natAbs_of_nonneg (by omega), Int.ofNat_natAbs_of_nonpos (by omega), Int.mul_neg, Int.neg_neg]; rfl
  · rw [show (decide (a < 0) != decide (b < 0)) = false by simp [ha, hb], sq_f, h1, Int.natAbs_of_nonneg (by omega), Int.natAbs_of_nonneg (by omega)]; rfl

theorem sq_div (a b : Int) : sq (a.natAbs * 65536) b.natAbs (decide (a < 0) != decide (b < 0)) = divQ a b := by
  by_cases ha : a < 0 <;> by_cases hb : b < 0 <;> simp only [divQ, hb, if_true, if_false]
  · rw [show (decide (a < 0) != decide True) = false by simp [ha], sq_f, Int.natCast_mul, Int.ofNat_natAbs_of_nonpos (by omega), Int.ofNat_natAbs_of_nonpos (by omega)]; rfl
  · rw [show (decide (a < 0) != decide False) = true by simp [ha], sq_t, Int.natCast_mul, Int.ofNat_natAbs_of_nonpos (by omega), Int.natAbs_of_nonneg (by omega), Int.neg_mul, Int.neg_neg]; rfl
  · rw [show (decide (a < 0) != decide True) = true by simp [ha], sq_t, Int.natCast_mul, Int.natAbs_of_nonneg (by omega), Int.ofNat_natAbs_of_nonpos (by omega), Int.neg_mul]; rfl
  · rw [show (decide (a < 0) != decide False) = false by simp [ha], sq_f, Int.natCast_mul, Int.natAbs_of_nonneg (by omega), Int.natAbs_of_nonneg (by omega)]; rfl

/-! The document's product, bit by bit. -/
theorem bit_next (n k : Nat) : n / 2 ^ k = 2 * (n / 2 ^ (k + 1)) + n / 2 ^ k % 2 := by
  rw [Nat.pow_succ, ← Nat.div_div_eq_div_mul]; omega

/-- One bit more: the whole number, and the rest. -/
theorem mul_next (a : Int) (B c : Nat) (hc : c < 2) :
    a * ((2 * B + c : Nat) : Int) = (2 * (a * B / 65536) + c * (a / 65536)) * 65536 + (2 * (a * B % 65536) + c * (a % 65536)) := by
  have e1 := Int.mul_ediv_add_emod (a * B) 65536
  have e2 := Int.mul_ediv_add_emod a 65536
  rcases (by omega : c = 0 ∨ c = 1) with rfl | rfl
  · have : a * ((2 * B + 0 : Nat) : Int) = 2 * (a * B) := by rw [Nat.add_zero, Int.natCast_mul, ← Int.mul_assoc, Int.mul_comm a, Int.mul_assoc]; rfl
    rw [this]; omega
  · have : a * ((2 * B + 1 : Nat) : Int) = 2 * (a * B) + a := by rw [Int.natCast_add, Int.natCast_mul, Int.mul_add, ← Int.mul_assoc, Int.mul_comm a, Int.mul_assoc]; simp
    rw [this]; omega

theorem two_le_pow (k : Nat) (h : 1 ≤ k) : 2 ≤ 2 ^ k := by
  obtain ⟨j, rfl⟩ : ∃ j, k = j + 1 := ⟨k - 1, by omega⟩
  have := Nat.one_le_two_pow (n := j)
  rw [Nat.pow_succ]; omega

theorem grow_pos {X m : Int} (hX : 0 ≤ X) (hm : 2 ≤ m) : 2 * X ≤ X * m := by
  have := Int.mul_le_mul_of_nonneg_left hm hX; omega
theorem grow_neg {X m : Int} (hX : X ≤ 0) (hm : 2 ≤ m) : X * m ≤ 2 * X := by
  have := Int.mul_le_mul_of_nonneg_left hm (show 0 ≤ -X by omega)
  rw [Int.neg_mul, Int.neg_mul] at this; omega

theorem mul_over (a : Int) (n k : Nat) (hk : 1 ≤ k) (hq : 2305843009213693952 < a * ((n / 2 ^ k : Nat) : Int) / 65536 ∨ a * ((n / 2 ^ k : Nat) : Int) / 65536 < -2305843009213693952) :
    inB (a * n / 65536) = false := by
  have e := Nat.div_add_mod n (2 ^ k)
  have e' : a * (n : Int) = a * ((n / 2 ^ k : Nat) : Int) * ((2 ^ k : Nat) : Int) + a * ((n % 2 ^ k : Nat) : Int) := by
    rw [Int.mul_assoc, ← Int.mul_add, ← Int.natCast_mul, ← Int.natCast_add, Nat.mul_comm, e]
  have hp : (2 : Int) ≤ ((2 ^ k : Nat) : Int) := by have := two_le_pow k hk; omega
  rw [inB_not]
  generalize ((2 ^ k : Nat) : Int) = m at *
  have hB0 : (0 : Int) ≤ ((n / 2 ^ k : Nat) : Int) := Int.natCast_nonneg _
  have hc0 : (0 : Int) ≤ ((n % 2 ^ k : Nat) : Int) := Int.natCast_nonneg _
  clear e
  generalize ((n / 2 ^ k : Nat) : Int) = B at *
  generalize ((n % 2 ^ k : Nat) : Int) = c at *
  rcases hq with hq | hq
  · have hX : 0 ≤ a * B := by omega
    have ha : 0 ≤ a := by
      apply Int.not_lt.1; intro hn
      have := Int.mul_le_mul_of_nonneg_right (show a ≤ 0 by omega) hB0
      omega
    have h1 := grow_pos hX hp
    have h2 : 0 ≤ a * c := Int.mul_nonneg ha hc0
    right; omega
  · have hX : a * B ≤ 0 := by omega
    have ha : a ≤ 0 := by
      apply Int.not_lt.1; intro hn
      have := Int.mul_nonneg (show 0 ≤ a by omega) hB0
      omega
    have h1 := grow_neg hX hp
    have h2 : a * c ≤ 0 := by
      have := Int.mul_le_mul_of_nonneg_right ha hc0
      omega
    left; omega

/-! The document's quotient, bit by bit. -/
theorem div_next (A b q r : Int) (hb : 0 < b) (hq : A / b = q) (hr : A % b = r) :
    (b - r ≤ r → 2 * A / b = 2 * q + 1 ∧ 2 * A % b = r - (b - r)) ∧ (¬ b - r ≤ r → 2 * A / b = 2 * q ∧ 2 * A % b = r + r) := by
  have e := Int.mul_ediv_add_emod A b
  have h0 := Int.emod_nonneg A (show b ≠ 0 by omega)
  have h1 := Int.emod_lt_of_pos A hb
  rw [hq, hr] at e
  rw [hr] at h0 h1
  constructor <;> intro h
  · refine (Int.ediv_emod_unique hb).2 ⟨?_, by omega, by omega⟩
    rw [Int.mul_add, Int.mul_comm 2 q, ← Int.mul_assoc]; omega
  · refine (Int.ediv_emod_unique hb).2 ⟨?_, by omega, by omega⟩
    rw [Int.mul_comm 2 q, ← Int.mul_assoc]; omega

theorem div_over (A b m : Int) (hb : 0 < b) (hm : 2 ≤ m) (hq : 2305843009213693952 < A / b ∨ A / b < -2305843009213693952) : inB (A * m / b) = false := by
  rw [inB_not]
  rcases hq with hq | hq
  · right
    have h1 : (2305843009213693953 : Int) * b ≤ A := (Int.le_ediv_iff_mul_le hb).1 (by omega)
    have h2 := grow_pos (show 0 ≤ A by omega) hm
    exact Int.lt_of_lt_of_le (by omega) ((Int.le_ediv_iff_mul_le hb).2 (show (4611686018427387906 : Int) * b ≤ A * m by omega))
  · left
    have h1 : A < (-2305843009213693952 : Int) * b := (Int.ediv_lt_iff_lt_mul hb).1 hq
    have h2 := grow_neg (show A ≤ 0 by omega) hm
    exact (Int.ediv_lt_iff_lt_mul hb).2 (by omega)
end Go.Proofs.Ytpjapjddfldniaa
