/- What a window is: all below next, and of the bits of mask those behind it. -/
import Derived.Test.YtkoajbmomipjkaaDoorBits
namespace Go.Proofs.YtkoajbmomipjkaaDoor
set_option linter.unusedVariables false

/-- The place of the lowest bit; 64 without any. -/
def lowIx (x : BitVec 64) : Nat := ((List.range 64).find? fun i => x.getLsbD i).getD 64
theorem lowIx_spec {x : BitVec 64} (h : x ≠ 0#64) : IsLow x (lowIx x) := by
  obtain ⟨i, hi⟩ := low_ex h
  have e : (List.range 64).find? (fun i => x.getLsbD i) = some i := by
    rw [List.find?_range_eq_some]
    exact ⟨hi.2.1, by simpa using hi.1, fun j hj => by simp [hi.2.2 j hj]⟩
  unfold lowIx
  rw [e]; exact hi

def metM (N : Nat) (x : BitVec 64) (k : Nat) : Bool := decide (k < N) || (decide (N < k) && x.getLsbD (k - N - 1))
/-- Next and mask behind a number more. -/
def withM (N : Nat) (x : BitVec 64) (n : Nat) : Nat × BitVec 64 :=
  if n = N then (N + 1 + lowIx (~~~x), x >>> lowIx (~~~x) >>> 1) else if N < n then (N, x ||| 1#64 <<< (n - N - 1)) else (N, x)

theorem run_ones {x : BitVec 64} (h : ~~~x ≠ 0#64) : (∀ j, j < lowIx (~~~x) → x.getLsbD j = true) ∧ x.getLsbD (lowIx (~~~x)) = false ∧ lowIx (~~~x) < 64 := by
  obtain ⟨h1, h2, h3⟩ := lowIx_spec h
  refine ⟨fun j hj => ?_, ?_, h1⟩
  · have := h3 j hj
    rw [BitVec.getLsbD_not] at this
    have hj64 : j < 64 := by omega
    simpa [hj64] using this
  · rw [BitVec.getLsbD_not] at h2
    simpa [h1] using h2

theorem with_met {N n : Nat} {x : BitVec 64} (h : ~~~x ≠ 0#64) (hn : n < N + 65) (k : Nat) : metM (withM N x n).1 (withM N x n).2 k = (metM N x k || decide (k = n)) := by
  unfold withM
  split
  · next e =>
    subst e
    obtain ⟨h1, h2, h3⟩ := run_ones h
    generalize lowIx (~~~x) = r at *
    unfold metM
    simp only
    by_cases a : k < n
    · have : k < n + 1 + r := by omega
      simp [a, this]
    by_cases b : k = n
    · subst b; simp; omega
    by_cases c : k < n + 1 + r
    · have := h1 (k - n - 1) (by omega)
      have d : n < k := by omega
      simp [c, this, d]
    · have d : n < k := by omega
      by_cases g : k = n + 1 + r
      · subst g
        have : n + 1 + r - n - 1 = r := by omega
        simp [this, h2, a, b]
      · have g2 : n + 1 + r < k := by omega
        have g3 : 1 + (r + (k - (n + 1 + r) - 1)) = k - n - 1 := by omega
        have g4 : r + (1 + (k - (n + 1 + r) - 1)) = k - n - 1 := by omega
        rw [BitVec.getLsbD_ushiftRight, BitVec.getLsbD_ushiftRight]
        simp [a, b, c, d, g2, g4]
  · next e =>
    split
    · next f =>
      unfold metM
      simp only [BitVec.getLsbD_or, BitVec.getLsbD_shiftLeft, BitVec.getLsbD_one]
      by_cases a : k < N
      · simp [a]
      by_cases b : N < k
      · by_cases c : k = n
        · subst c
          have : k - N - 1 < 64 := by omega
          simp [a, b, this]
        · simp only [a, b, c, decide_true, decide_false, Bool.true_and, Bool.false_or, Bool.or_false]
          by_cases d : k - N - 1 < n - N - 1
          · simp [d]
          · have : ¬ (k - N - 1 - (n - N - 1) = 0) := by omega
            simp [this]
      · have : ¬ k = n := by omega
        simp [a, b, this]
    · next f =>
      have : n < N := by omega
      by_cases c : k = n
      · subst c; simp [metM, this]
      · simp [c]

theorem with_same {N n : Nat} {x : BitVec 64} (h : metM N x n = true) : withM N x n = (N, x) := by
  unfold metM at h
  simp only [Bool.or_eq_true, Bool.and_eq_true, decide_eq_true_eq] at h
  unfold withM
  rcases h with h | ⟨h1, h2⟩
  · rw [if_neg (by omega), if_neg (by omega)]
  · rw [if_neg (by omega), if_pos h1]
    congr 1
    apply BitVec.eq_of_getLsbD_eq
    intro j hj
    simp only [BitVec.getLsbD_or, BitVec.getLsbD_shiftLeft, BitVec.getLsbD_one]
    by_cases e : j = n - N - 1
    · subst e; simp [h2]
    · by_cases f : j < n - N - 1
      · simp [f]
      · have : ¬ (j - (n - N - 1) = 0) := by omega
        simp [this]

theorem with_other {N n : Nat} {x : BitVec 64} (h : ~~~x ≠ 0#64) (hn : n < N + 65) (h2 : metM N x n = false) : withM N x n ≠ (N, x) := by
  intro e
  have := with_met h hn n
  rw [e] at this
  simp [h2] at this

theorem with_next {N n : Nat} {x : BitVec 64} : N ≤ (withM N x n).1 := by
  unfold withM; split
  · simp only; omega
  · split <;> simp

/-- A mask below 2^63 has a bit that is not set. -/
theorem not_full {x : BitVec 64} (h : x.getLsbD 63 = false) : ~~~x ≠ 0#64 := by
  intro e
  have : (~~~x).getLsbD 63 = false := by rw [e]; simp
  rw [BitVec.getLsbD_not, h] at this
  simp at this
theorem top_clear {x : BitVec 64} (h : x.toNat < 2 ^ 63) : x.getLsbD 63 = false := by
  rw [BitVec.getLsbD, Nat.testBit_lt_two_pow h]
theorem with_top {N n : Nat} {x : BitVec 64} (h : x.getLsbD 63 = false) (hn : n < N + 64) : (withM N x n).2.getLsbD 63 = false := by
  unfold withM; split
  · simp only [BitVec.getLsbD_ushiftRight]
    apply BitVec.getLsbD_of_ge; omega
  · split
    · simp only [BitVec.getLsbD_or, BitVec.getLsbD_shiftLeft, BitVec.getLsbD_one, h, Bool.false_or]
      have : ¬ (63 - (n - N - 1) = 0) := by omega
      simp [this]
    · exact h
end Go.Proofs.YtkoajbmomipjkaaDoor
