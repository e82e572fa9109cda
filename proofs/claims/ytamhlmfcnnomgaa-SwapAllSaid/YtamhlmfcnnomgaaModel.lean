/- What swap answers, as plain functions on numbers. Nothing here names the program. -/
import Derived.Test.YtamhlmfcnnomgaaLen
namespace Go.Proofs.Ytamhlmfcnnomgaa

def okP (mode p s : Int) : Prop := (mode = 1 ∨ mode = 2) ∧ 1 ≤ p ∧ p ≤ 64 ∧ 0 ≤ s ∧ s ≤ 4096
instance (mode p s : Int) : Decidable (okP mode p s) := by unfold okP; infer_instance

def sStep (place k : Nat) (x : Nat × Nat) : Nat × Nat := if place / 2 ^ k % 2 = 0 then (x.1, x.1 + (x.2 - x.1) / 2) else (x.1 + (x.2 - x.1) / 2, x.2)
def sIter (place s : Nat) : Nat → Nat × Nat
  | 0 => (0, s)
  | n + 1 => sStep place n (sIter place s n)
def qOf (p : Nat) : Nat := 2 ^ Nat.log2 p
def roundsOf (mode p : Nat) : Nat := if mode = 2 then 1 else Nat.log2 p + 1
def heldOf (mode p s place round : Nat) : Nat × Nat :=
  if round = 0 then (0, s) else if mode = 2 then (place * s / p, (place + 1) * s / p) else if qOf p ≤ place then (0, 0) else sIter place s (round - 1)

theorem log_le {p : Nat} (h0 : 1 ≤ p) (h : p ≤ 64) : Nat.log2 p ≤ 6 := by
  have : Nat.log2 p < 7 := by rw [Nat.log2_lt (by omega)]; omega
  omega
theorem qOf_le {p : Nat} (h0 : 1 ≤ p) : qOf p ≤ p := Nat.log2_self_le (by omega)
theorem lt_qOf (p : Nat) : p < 2 * qOf p := by
  unfold qOf
  have := @Nat.lt_log2_self p
  rw [Nat.pow_succ] at this; omega
theorem qOf_pos (p : Nat) : 1 ≤ qOf p := Nat.one_le_two_pow

theorem sStep_le (place k : Nat) (x : Nat × Nat) (h : x.1 ≤ x.2) : x.1 ≤ (sStep place k x).1 ∧ (sStep place k x).1 ≤ (sStep place k x).2 ∧ (sStep place k x).2 ≤ x.2 := by
  unfold sStep; split <;> simp <;> omega
theorem sIter_le (place s n : Nat) : (sIter place s n).1 ≤ (sIter place s n).2 ∧ (sIter place s n).2 ≤ s := by
  induction n with
  | zero => simp [sIter]
  | succ n ih =>
    have := sStep_le place n _ ih.1
    simp only [sIter]; omega
end Go.Proofs.Ytamhlmfcnnomgaa
