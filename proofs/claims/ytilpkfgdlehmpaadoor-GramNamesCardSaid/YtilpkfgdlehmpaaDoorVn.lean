/- Numbers as bytes: what stands at the front of bytes (plain law). -/
import Derived.Test.YtilpkfgdlehmpaaDoorBase
namespace Go.Proofs.YtilpkfgdlehmpaaDoor
set_option linter.unusedVariables false

/-- The number whose form stands there, from the byte i on, n being what the bytes ahead make; and how many bytes it has. -/
def numF : Nat → Int → List Int → Option (Int × Nat)
  | _, _, [] => none
  | i, n, c :: l => if i = 10 ∨ (i = 9 ∧ 1 < c % 128) then none
    else if 128 ≤ c then numF (i + 1) (n + c % 128 * 128 ^ i) l
    else if c = 0 ∧ 0 < i then none
    else some (n + c % 128 * 128 ^ i, i + 1)
def byteK (c : Int) : Prop := 0 ≤ c ∧ c ≤ 255
theorem numF_nil (i : Nat) (n : Int) : numF i n [] = none := by unfold numF; rfl
theorem numF_stop {i : Nat} {n c : Int} {l : List Int} (h : i = 10 ∨ (i = 9 ∧ 1 < c % 128)) : numF i n (c :: l) = none := by
  unfold numF; rw [if_pos h]
theorem numF_next {i : Nat} {n c : Int} {l : List Int} (h : ¬ (i = 10 ∨ (i = 9 ∧ 1 < c % 128))) (hc : 128 ≤ c) : numF i n (c :: l) = numF (i + 1) (n + c % 128 * 128 ^ i) l := by
  rw [numF, if_neg h, if_pos hc]
theorem numF_zero {i : Nat} {n c : Int} {l : List Int} (h : ¬ (i = 10 ∨ (i = 9 ∧ 1 < c % 128))) (hc : c = 0) (hi : 0 < i) : numF i n (c :: l) = none := by
  rw [numF, if_neg h, if_neg (by omega), if_pos ⟨hc, hi⟩]
theorem numF_done {i : Nat} {n c : Int} {l : List Int} (h : ¬ (i = 10 ∨ (i = 9 ∧ 1 < c % 128))) (hc : ¬ 128 ≤ c) (h0 : ¬ (c = 0 ∧ 0 < i)) : numF i n (c :: l) = some (n + c % 128 * 128 ^ i, i + 1) := by
  rw [numF, if_neg h, if_neg hc, if_neg h0]
/-- The tenth byte is 0 or 1, or there is no number (so the reference says). -/
theorem numF_nine {n c : Int} {l : List Int} (h1 : 1 < c) (hc : byteK c) : numF 9 n (c :: l) = none := by
  by_cases h : 1 < c % 128
  · exact numF_stop (.inr ⟨rfl, h⟩)
  · have h2 : 128 ≤ c := by unfold byteK at hc; omega
    rw [numF_next (by omega) h2]
    cases l with
    | nil => exact numF_nil _ _
    | cons d l => exact numF_stop (.inl rfl)
theorem pow128 {i : Nat} (hi : i ≤ 9) : (128 : Int) ^ i ≤ 9223372036854775808 ∧ 1 ≤ (128 : Int) ^ i := by
  have : i = 0 ∨ i = 1 ∨ i = 2 ∨ i = 3 ∨ i = 4 ∨ i = 5 ∨ i = 6 ∨ i = 7 ∨ i = 8 ∨ i = 9 := by omega
  rcases this with rfl | rfl | rfl | rfl | rfl | rfl | rfl | rfl | rfl | rfl <;> decide
/-- What a byte more makes of what is below 128 to the i. -/
theorem num_step {i : Nat} {n c : Int} (h0 : 0 ≤ n) (hn : n < 128 ^ i) (hc : byteK c) : 0 ≤ n + c % 128 * 128 ^ i ∧ n + c % 128 * 128 ^ i < 128 ^ (i + 1) := by
  have hp : (0 : Int) < 128 ^ i := Int.pow_pos (by decide)
  have hm : 0 ≤ c % 128 ∧ c % 128 ≤ 127 := by omega
  rw [Int.pow_succ]
  generalize (128 : Int) ^ i = P at *
  generalize c % 128 = m at *
  have h1 : 0 ≤ m * P := Int.mul_nonneg hm.1 (by omega)
  have h2 : m * P ≤ 127 * P := Int.mul_le_mul_of_nonneg_right hm.2 (by omega)
  exact ⟨by omega, by omega⟩
theorem numF_size : ∀ (l : List Int) {i : Nat} {n v : Int} {k : Nat}, numF i n l = some (v, k) → i ≤ 10 → i < k ∧ k ≤ i + l.length ∧ k ≤ 10
  | [], i, n, v, k, h, hi => by rw [numF_nil] at h; cases h
  | c :: l, i, n, v, k, h, hi => by
    by_cases h1 : i = 10 ∨ (i = 9 ∧ 1 < c % 128)
    · rw [numF_stop h1] at h; cases h
    · by_cases hc : 128 ≤ c
      · rw [numF_next h1 hc] at h
        have := numF_size l h (by omega)
        rw [List.length_cons]
        omega
      · by_cases h0 : c = 0 ∧ 0 < i
        · rw [numF_zero h1 h0.1 h0.2] at h; cases h
        · rw [numF_done h1 hc h0] at h
          cases h
          rw [List.length_cons]
          omega
theorem numF_bound : ∀ (l : List Int) {i : Nat} {n v : Int} {k : Nat}, (∀ c ∈ l, byteK c) → 0 ≤ n → n < 128 ^ i → i ≤ 10 → numF i n l = some (v, k) → 0 ≤ v ∧ v < 18446744073709551616
  | [], i, n, v, k, _, _, _, _, h => by rw [numF_nil] at h; cases h
  | c :: l, i, n, v, k, hb, h0, hn, hi, h => by
    have hc := hb c (List.mem_cons_self ..)
    have hs := num_step h0 hn hc
    by_cases h1 : i = 10 ∨ (i = 9 ∧ 1 < c % 128)
    · rw [numF_stop h1] at h; cases h
    · by_cases hc1 : 128 ≤ c
      · rw [numF_next h1 hc1] at h
        exact numF_bound l (fun d hd => hb d (List.mem_cons_of_mem _ hd)) hs.1 hs.2 (by omega) h
      · by_cases hz : c = 0 ∧ 0 < i
        · rw [numF_zero h1 hz.1 hz.2] at h; cases h
        · rw [numF_done h1 hc1 hz] at h
          cases h
          refine ⟨hs.1, ?_⟩
          by_cases h9 : i = 9
          · subst h9
            have h2 : c % 128 ≤ 1 := by omega
            have h3 : 0 ≤ c % 128 := by omega
            generalize c % 128 = m at *
            have : (128 : Int) ^ 9 = 9223372036854775808 := by decide
            rw [this] at hn ⊢
            omega
          · have h3 := pow128 (i := i + 1) (by omega)
            omega

/-- A reader: what is left, and whether it is spoilt. -/
abbrev RdSt18 := List Int × Bool
def upK (st : RdSt18) (most : Int) : Int × RdSt18 :=
  if st.2 = true then (0, st) else
  match numF 0 0 st.1 with
  | none => (0, (st.1, true))
  | some (v, k) => if most < v then (0, (st.1, true)) else (v, (st.1.drop k, false))
def textK (st : RdSt18) (most : Int) : List Int × RdSt18 :=
  if st.2 = true then ([], st) else
  if (upK st most).2.2 = true ∨ ((upK st most).2.1.length : Int) < (upK st most).1 then ([], (st.1, true))
  else ((upK st most).2.1.take (upK st most).1.toNat, ((upK st most).2.1.drop (upK st most).1.toNat, false))
end Go.Proofs.YtilpkfgdlehmpaaDoor
