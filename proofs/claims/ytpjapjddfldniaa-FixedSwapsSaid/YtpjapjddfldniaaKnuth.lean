/- Long division by two halves of 32 bits (Knuth's D): the plain arithmetic. Nothing here names the program. -/
import Derived.Test.YtpjapjddfldniaaBase
namespace Go.Proofs.Ytpjapjddfldniaa

/-- What is known at the head of the correcting loop: r: what is divided, ahead of the digit d; y = a * 2^32 + b: the divisor; q: the digit so far; h: its rest. -/
structure Corr (r d y a b q h : Nat) : Prop where
  h_y : y = a * 4294967296 + b
  h_b : b < 4294967296
  h_a : 2147483648 ≤ a
  h_a2 : a < 4294967296
  h_d : d < 4294967296
  h_r : r < y
  h_h : h < 4294967296
  h_q : q ≤ 4294967297
  h_rest : r = h + q * a
  h_least : (r * 4294967296 + d) / y ≤ q

theorem Corr.ypos {r d y a b q h : Nat} (c : Corr r d y a b q h) : 0 < y := by have := c.h_r; omega

theorem corr_start {r d y a b : Nat} (hy : y = a * 4294967296 + b) (hb : b < 4294967296) (ha : 2147483648 ≤ a) (ha2 : a < 4294967296) (hd : d < 4294967296) (hr : r < y) :
    Corr r d y a b (r / a) (r - r / a * a) := by
  have h0 : 0 < a := by omega
  have h1 : r / a * a ≤ r := Nat.div_mul_le_self r a
  have h2 : r % a < a := Nat.mod_lt _ h0
  have h3 : r = r / a * a + r % a := by rw [Nat.mul_comm]; exact (Nat.div_add_mod r a).symm
  refine ⟨hy, hb, ha, ha2, hd, hr, by omega, ?_, by omega, ?_⟩
  · have : r / a < 4294967298 := by
      rw [Nat.div_lt_iff_lt_mul h0]
      omega
    omega
  · rw [Nat.le_div_iff_mul_le h0]
    have hy0 : 0 < y := by omega
    have h4 : (r * 4294967296 + d) / y * y ≤ r * 4294967296 + d := Nat.div_mul_le_self _ _
    rw [hy] at h4 ⊢
    generalize (r * 4294967296 + d) / (a * 4294967296 + b) = Q at h4 ⊢
    rw [Nat.mul_add, ← Nat.mul_assoc] at h4
    omega

theorem Corr.lt {r d y a b q h : Nat} (c : Corr r d y a b q h) : (r * 4294967296 + d) / y < 4294967296 := by
  rw [Nat.div_lt_iff_lt_mul c.ypos]
  have := c.h_r; have := c.h_d
  omega

theorem Corr.test {r d y a b q h : Nat} (c : Corr r d y a b q h) : (h * 4294967296 + d < q * b) ↔ (r * 4294967296 + d) / y < q := by
  rw [Nat.div_lt_iff_lt_mul c.ypos, c.h_y, Nat.mul_add, ← Nat.mul_assoc]
  have := c.h_rest
  omega

theorem Corr.stop {r d y a b q h : Nat} (c : Corr r d y a b q h) (h2 : ¬ h * 4294967296 + d < q * b) : q = (r * 4294967296 + d) / y := by
  rw [c.test] at h2
  have := c.h_least
  omega

theorem Corr.over {r d y a b q h : Nat} (c : Corr r d y a b q h) (h1 : 4294967296 ≤ q ∨ h * 4294967296 + d < q * b) : (r * 4294967296 + d) / y < q := by
  rcases h1 with h1 | h1
  · have := c.lt; omega
  · exact c.test.1 h1

theorem Corr.next {r d y a b q h : Nat} (c : Corr r d y a b q h) (h1 : 4294967296 ≤ q ∨ h * 4294967296 + d < q * b) (h2 : h + a < 4294967296) : Corr r d y a b (q - 1) (h + a) := by
  have h3 := c.over h1
  refine ⟨c.h_y, c.h_b, c.h_a, c.h_a2, c.h_d, c.h_r, h2, by have := c.h_q; omega, ?_, by omega⟩
  have h4 := c.h_rest
  obtain ⟨p, rfl⟩ : ∃ p, q = p + 1 := ⟨q - 1, (Nat.succ_pred_eq_of_pos (Nat.lt_of_le_of_lt (Nat.zero_le _) h3)).symm⟩
  rw [Nat.add_mul] at h4
  rw [Nat.add_sub_cancel]
  omega

theorem Corr.leave {r d y a b q h : Nat} (c : Corr r d y a b q h) (h1 : 4294967296 ≤ q ∨ h * 4294967296 + d < q * b) (h2 : 4294967296 ≤ h + a) : q - 1 = (r * 4294967296 + d) / y := by
  have h3 := c.over h1
  have h4 := c.h_rest
  have h5 := c.h_q
  obtain ⟨p, rfl⟩ : ∃ p, q = p + 1 := ⟨q - 1, (Nat.succ_pred_eq_of_pos (Nat.lt_of_le_of_lt (Nat.zero_le _) h3)).symm⟩
  rw [Nat.add_mul] at h4
  rw [Nat.add_sub_cancel]
  have h6 : p ≤ (r * 4294967296 + d) / y := by
    rw [Nat.le_div_iff_mul_le c.ypos, c.h_y, Nat.mul_add, ← Nat.mul_assoc]
    have h7 : p * b ≤ 4294967296 * 4294967295 := Nat.mul_le_mul (by omega) (by have := c.h_b; omega)
    omega
  omega

/-- What the test's products are, at most. -/
theorem Corr.prod {r d y a b q h : Nat} (c : Corr r d y a b q h) : q * b ≤ 18446744073709551615 := by
  have h7 : q * b ≤ 4294967297 * 4294967295 := Nat.mul_le_mul c.h_q (by have := c.h_b; omega)
  omega

/-- The rest, modulo 2^64. -/
theorem rest_mod (r d y : Nat) (hy : 0 < y) (h64 : y ≤ 18446744073709551616) :
    (((r : Int) * 4294967296 % 18446744073709551616 + d) % 18446744073709551616 - ((r * 4294967296 + d) / y : Nat) * (y : Int) % 18446744073709551616) % 18446744073709551616 = ((r * 4294967296 + d) % y : Nat) := by
  have h1 := Nat.div_add_mod (r * 4294967296 + d) y
  have h2 := Nat.mod_lt (r * 4294967296 + d) hy
  rw [Nat.mul_comm] at h1
  generalize (r * 4294967296 + d) / y = Q at *
  generalize (r * 4294967296 + d) % y = R at *
  have h3 : (Q : Int) * (y : Int) = ((Q * y : Nat) : Int) := (Int.natCast_mul Q y).symm
  rw [h3]
  generalize Q * y = P at *
  omega

/-- Two digits are a quotient. -/
theorem two_digits (r d1 d0 y : Nat) (hy : 0 < y) :
    (r * 4294967296 + d1) / y * 4294967296 + ((r * 4294967296 + d1) % y * 4294967296 + d0) / y = (r * 18446744073709551616 + d1 * 4294967296 + d0) / y ∧
    ((r * 4294967296 + d1) % y * 4294967296 + d0) % y = (r * 18446744073709551616 + d1 * 4294967296 + d0) % y := by
  have e1 := Nat.div_add_mod (r * 4294967296 + d1) y
  have e2 : r * 18446744073709551616 + d1 * 4294967296 + d0 = y * ((r * 4294967296 + d1) / y * 4294967296) + ((r * 4294967296 + d1) % y * 4294967296 + d0) := by
    rw [← Nat.mul_assoc]
    generalize y * ((r * 4294967296 + d1) / y) = P at *
    omega
  rw [e2, Nat.mul_add_div hy, Nat.mul_add_mod]
  exact ⟨rfl, rfl⟩

/-- A shift of both leaves the quotient, and shifts the rest. -/
theorem shifted (u y k : Nat) (hk : 0 < k) : u * k / (y * k) = u / y ∧ u * k % (y * k) / k = u % y := by
  refine ⟨Nat.mul_div_mul_right _ _ hk, ?_⟩
  rw [Nat.mul_mod_mul_right, Nat.mul_div_cancel _ hk]

theorem log2_shift (x k : Nat) (h : 2 ^ k ≤ x) : Nat.log2 x = k + Nat.log2 (x / 2 ^ k) := by
  have hp : 0 < 2 ^ k := Nat.two_pow_pos k
  have h1 : 1 ≤ x / 2 ^ k := (Nat.le_div_iff_mul_le hp).2 (by omega)
  have h2 : x ≠ 0 := by omega
  rw [Nat.log2_eq_iff h2]
  have h3 := (Nat.log2_eq_iff (show x / 2 ^ k ≠ 0 by omega)).1 rfl
  generalize (x / 2 ^ k).log2 = m at *
  obtain ⟨h3, h4⟩ := h3
  have h5 := (Nat.le_div_iff_mul_le hp).1 h3
  have h6 := (Nat.div_lt_iff_lt_mul hp).1 h4
  rw [show k + m + 1 = (m + 1) + k by omega, Nat.add_comm k m, Nat.pow_add, Nat.pow_add 2 (m + 1) k]
  exact ⟨h5, h6⟩

/-- What is normalised: both halves of the dividend, and the divisor. -/
theorem norm_y (y : Nat) (h0 : 1 ≤ y) (h1 : y < 18446744073709551616) :
    Nat.log2 y ≤ 63 ∧ y * 2 ^ (63 - Nat.log2 y) < 18446744073709551616 ∧ 9223372036854775808 ≤ y * 2 ^ (63 - Nat.log2 y) := by
  have h3 := (Nat.log2_eq_iff (show y ≠ 0 by omega)).1 rfl
  have h4 : Nat.log2 y < 64 := by rw [Nat.log2_lt (by omega)]; exact h1
  generalize Nat.log2 y = m at *
  have e1 : 2 ^ m * 2 ^ (63 - m) = 9223372036854775808 := by rw [← Nat.pow_add, show m + (63 - m) = 63 by omega]
  have e2 : 2 ^ (m + 1) * 2 ^ (63 - m) = 18446744073709551616 := by rw [← Nat.pow_add, show m + 1 + (63 - m) = 64 by omega]
  have hp : 0 < 2 ^ (63 - m) := Nat.two_pow_pos _
  refine ⟨by omega, ?_, ?_⟩
  · have := Nat.mul_lt_mul_of_pos_right h3.2 hp
    omega
  · have := Nat.mul_le_mul_right (2 ^ (63 - m)) h3.1
    omega

theorem norm_u (hi lo s : Nat) (hs : s ≤ 64) (hl : lo < 18446744073709551616) :
    hi * 2 ^ s ||| lo / 2 ^ (64 - s) = hi * 2 ^ s + lo / 2 ^ (64 - s) ∧ lo / 2 ^ (64 - s) < 2 ^ s ∧
    (hi * 2 ^ s + lo / 2 ^ (64 - s)) * 18446744073709551616 + lo * 2 ^ s % 18446744073709551616 = (hi * 18446744073709551616 + lo) * 2 ^ s := by
  have hp : 0 < 2 ^ s := Nat.two_pow_pos _
  have hq : 0 < 2 ^ (64 - s) := Nat.two_pow_pos _
  have e : 2 ^ (64 - s) * 2 ^ s = 18446744073709551616 := by rw [← Nat.pow_add, show 64 - s + s = 64 by omega]
  have h2 : lo / 2 ^ (64 - s) < 2 ^ s := by rw [Nat.div_lt_iff_lt_mul hq, Nat.mul_comm]; omega
  refine ⟨?_, h2, ?_⟩
  · rw [← Nat.shiftLeft_eq]; exact (Nat.shiftLeft_add_eq_or_of_lt h2 hi).symm
  · have h3 : lo / 2 ^ (64 - s) = lo * 2 ^ s / 18446744073709551616 := by rw [← e, Nat.mul_div_mul_right _ _ hp]
    have h4 := Nat.div_add_mod (lo * 2 ^ s) 18446744073709551616
    rw [h3, Nat.add_mul, Nat.add_mul, Nat.mul_right_comm hi]
    omega
end Go.Proofs.Ytpjapjddfldniaa
