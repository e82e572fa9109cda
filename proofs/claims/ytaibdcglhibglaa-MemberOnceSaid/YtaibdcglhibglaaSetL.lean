/- The numbers of a set of six. -/
import Derived.Test.YtaibdcglhibglaaOk
namespace Go.Proofs.Ytaibdcglhibglaa
open Go.RowKit
set_option linter.unusedVariables false

/-- Whether a number is in the set (the first one always). -/
def inSet (s : Int) (k : Nat) : Bool := k == 0 || s / 2 ^ k % 2 == 1
/-- The set's numbers below k. -/
def setL (s : Int) : Nat → List Int
  | 0 => []
  | k + 1 => if inSet s k then setL s k ++ [(k : Int)] else setL s k
theorem setL_lt {s : Int} : ∀ {k : Nat}, ∀ x ∈ setL s k, 0 ≤ x ∧ x < k
  | 0, x, h => by cases h
  | k + 1, x, h => by
    unfold setL at h
    split at h
    · rcases List.mem_append.1 h with h | h
      · have := setL_lt x h; omega
      · obtain rfl : x = k := by simpa using h
        omega
    · have := setL_lt x h; omega
theorem setL_up {s : Int} : ∀ {k : Nat}, (setL s k).Pairwise (· < ·)
  | 0 => .nil
  | k + 1 => by
    unfold setL
    split
    · refine List.pairwise_append.2 ⟨setL_up, by simp, fun x hx y hy => ?_⟩
      have := setL_lt x hx
      obtain rfl : y = k := by simpa using hy
      omega
    · exact setL_up
theorem setL_len {s : Int} : ∀ {k : Nat}, (setL s k).length ≤ k
  | 0 => Nat.le_refl _
  | k + 1 => by
    have := setL_len (s := s) (k := k)
    unfold setL
    split
    · simp; omega
    · omega
theorem setL_head {s : Int} : ∀ {k : Nat}, ∃ l, setL s (k + 1) = 0 :: l
  | 0 => ⟨[], by simp [setL, inSet]⟩
  | k + 1 => by
    obtain ⟨l, hl⟩ := setL_head (s := s) (k := k)
    rw [setL]
    split
    · exact ⟨l ++ [((k + 1 : Nat) : Int)], by rw [hl]; rfl⟩
    · exact ⟨l, hl⟩
theorem setL_rising (s : Int) : risingI (setL s 6) 6 = true := by
  obtain ⟨l, hl⟩ := setL_head (s := s) (k := 5)
  unfold risingI
  refine decide_eq_true ⟨by rw [hl]; simp, fun x hx => ?_, setL_up⟩
  have := setL_lt x hx
  omega
theorem setL_zero (s : Int) : (setL s 6).getD 0 0 = 0 := by
  obtain ⟨l, hl⟩ := setL_head (s := s) (k := 5)
  rw [hl]; rfl
theorem inSet_at {s : Int} {k : Nat} {m : Int} (hk : k ≠ 0) (h : (2 : Int) ^ k = m) : inSet s k = (s / m % 2 == 1) := by
  unfold inSet
  have : (k == 0) = false := by simpa using hk
  rw [this, h, Bool.false_or]
theorem bits_one : ∀ n : Fin 256, bits BinOp.and IntKind.u8 ((n.val : Nat) : Int) 1 = ((n.val % 2 : Nat) : Int) := by decide +kernel
theorem inSet_bits {s : Int} {k : Nat} {m : Int} (hk : k ≠ 0) (h : (2 : Int) ^ k = m) (hm : 1 ≤ m) (hs : 0 ≤ s ∧ s ≤ 255) : (bits BinOp.and IntKind.u8 (s / m) 1 == 1) = inSet s k := by
  rw [inSet_at hk h]
  have h0 : 0 ≤ s / m := Int.ediv_nonneg hs.1 (by omega)
  have h1 : s / m ≤ 255 := Int.le_trans (Int.ediv_le_self _ hs.1) hs.2
  obtain ⟨n, hn⟩ : ∃ n : Nat, s / m = n := ⟨(s / m).toNat, by omega⟩
  rw [hn] at h0 h1 ⊢
  have := bits_one ⟨n, by omega⟩
  simp only at this
  rw [this]
  rfl
theorem setL_yes {s : Int} {k : Nat} (h : inSet s k = true) : setL s (k + 1) = setL s k ++ [(k : Int)] := by rw [setL, if_pos h]
theorem setL_no {s : Int} {k : Nat} (h : inSet s k = false) : setL s (k + 1) = setL s k := by rw [setL, if_neg (by simp [h])]
end Go.Proofs.Ytaibdcglhibglaa
