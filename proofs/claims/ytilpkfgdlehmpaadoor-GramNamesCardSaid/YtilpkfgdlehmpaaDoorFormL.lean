/- A number's form (plain law). -/
import Derived.Test.YtilpkfgdlehmpaaDoorVn
namespace Go.Proofs.YtilpkfgdlehmpaaDoor
set_option linter.unusedVariables false

/-- A number's bytes. -/
def nB (n : Nat) : List Int := if h : n < 128 then [(n : Int)] else ((n % 128 + 128 : Nat) : Int) :: nB (n / 128)
termination_by n
decreasing_by omega
theorem nB_small {n : Nat} (h : n < 128) : nB n = [(n : Int)] := by rw [nB, dif_pos h]
theorem nB_big {n : Nat} (h : ¬ n < 128) : nB n = ((n % 128 + 128 : Nat) : Int) :: nB (n / 128) := by rw [nB, dif_neg h]
theorem nB_pos (n : Nat) : 0 < (nB n).length := by
  by_cases h : n < 128
  · rw [nB_small h]; simp
  · rw [nB_big h]; simp
theorem nB_bytes (n : Nat) : ∀ x ∈ nB n, byteK x := by
  induction n using Nat.strongRecOn with
  | _ n ih =>
    by_cases h : n < 128
    · rw [nB_small h]
      intro x hx
      rw [List.mem_singleton.1 hx]
      unfold byteK; omega
    · rw [nB_big h]
      intro x hx
      rcases List.mem_cons.1 hx with rfl | hx
      · unfold byteK; omega
      · exact ih (n / 128) (by omega) x hx
theorem nB_drop (n : Nat) : ∀ i, i < (nB n).length → (nB n).drop i = nB (n / 128 ^ i)
  | 0, _ => by simp
  | i + 1, h => by
    have hi : i < (nB n).length := by omega
    have ih := nB_drop n i hi
    have hc := List.drop_eq_getElem_cons hi
    rw [ih] at hc
    by_cases hz : n / 128 ^ i < 128
    · rw [nB_small hz] at hc
      have := congrArg List.length hc
      simp at this
      omega
    · rw [nB_big hz] at hc
      injection hc with _ h2
      rw [← h2, Nat.pow_succ, Nat.div_div_eq_div_mul]
theorem nB_len {n k : Nat} (h : n < 128 ^ (k + 1)) : (nB n).length ≤ k + 1 := by
  induction k generalizing n with
  | zero => rw [nB_small (by simpa using h)]; simp
  | succ k ih =>
    by_cases hn : n < 128
    · rw [nB_small hn]; simp
    · rw [nB_big hn]
      have := ih (n := n / 128) (by rw [Nat.pow_succ] at h; exact (Nat.div_lt_iff_lt_mul (by decide)).2 h)
      simp; omega
theorem nB_len64 {n : Nat} (h : n < 18446744073709551616) : (nB n).length ≤ 10 := nB_len (k := 9) (by
  have : (128 : Nat) ^ (9 + 1) = 1180591620717411303424 := by decide
  omega)
/-- The number at the front of a form with bytes behind is that number. -/
theorem numF_nB (l : List Int) : ∀ (m i : Nat) (v : Int), m * 128 ^ i < 18446744073709551616 → i ≤ 9 → (0 < i → 0 < m) → numF i v (nB m ++ l) = some (v + m * 128 ^ i, i + (nB m).length) := by
  intro m
  induction m using Nat.strongRecOn with
  | _ m ih =>
    intro i v hm hi h0
    have h9 : i = 9 → m ≤ 1 := fun h => by
      subst h
      have : (128 : Nat) ^ 9 = 9223372036854775808 := by decide
      omega
    by_cases h : m < 128
    · rw [nB_small h]
      have hng : ¬ (i = 10 ∨ (i = 9 ∧ 1 < ((m : Int) % 128))) := by
        rintro (h1 | ⟨h1, h2⟩)
        · omega
        · have := h9 h1; omega
      show numF i v ((m : Int) :: l) = _
      rw [numF_done hng (by omega) (by rintro ⟨h1, h2⟩; have := h0 h2; omega), show (m : Int) % 128 = m by omega]
      simp
    · rw [nB_big h]
      have hi9 : i ≠ 9 := fun h1 => by have := h9 h1; omega
      have hd : m / 128 * 128 ^ (i + 1) ≤ m * 128 ^ i := by
        rw [Nat.pow_succ, Nat.mul_comm (128 ^ i) 128, ← Nat.mul_assoc]
        exact Nat.mul_le_mul_right _ (by omega)
      show numF i v (((m % 128 + 128 : Nat) : Int) :: (nB (m / 128) ++ l)) = _
      rw [numF_next (by omega) (by omega), ih (m / 128) (by omega) (i + 1) _ (by omega) (by omega) (fun _ => by omega)]
      have e : (((m % 128 + 128 : Nat) : Int) % 128) = ((m % 128 : Nat) : Int) := by omega
      rw [e]
      have e2 : (m : Int) = ((m % 128 : Nat) : Int) + 128 * ((m / 128 : Nat) : Int) := by omega
      congr 2
      · generalize hP : (128 : Int) ^ i = P
        have e3 : (128 : Int) ^ (i + 1) = P * 128 := by rw [Int.pow_succ, hP]
        rw [e3, e2]
        generalize ((m % 128 : Nat) : Int) = x
        generalize ((m / 128 : Nat) : Int) = y
        rw [Int.add_mul, Int.add_assoc]
        congr 1
        congr 1
        rw [Int.mul_comm P 128, ← Int.mul_assoc, Int.mul_comm y 128]
      · simp; omega
end Go.Proofs.YtilpkfgdlehmpaaDoor
