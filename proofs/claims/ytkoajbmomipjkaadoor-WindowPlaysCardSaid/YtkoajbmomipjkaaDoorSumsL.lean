/- How many numbers a window has met; two windows told of each other. -/
import Derived.Test.YtkoajbmomipjkaaDoorLastL
namespace Go.Proofs.YtkoajbmomipjkaaDoor
open Go.RowKit
set_option linter.unusedVariables false

theorem sdig_top2 : ∀ (j z : Nat), sdig 2 (j + 1) z = sdig 2 j z + z / 2 ^ j % 2
  | 0, z => by simp [sdig]
  | j + 1, z => by
    have := sdig_top2 j (z / 2)
    rw [sdig, this, sdig, Nat.div_div_eq_div_mul, show 2 * 2 ^ j = 2 ^ (j + 1) by rw [Nat.pow_succ]; omega]
    omega

theorem count_low (N : Nat) (x : BitVec 64) : (List.range N).countP (metM N x) = N := by
  have : (List.range N).countP (metM N x) = (List.range N).length := by
    rw [List.countP_eq_length]
    intro k hk
    have := List.mem_range.1 hk
    unfold metM; rw [decide_eq_true this]; rfl
  rw [this, List.length_range]

theorem count_bits (N : Nat) (x : BitVec 64) : ∀ j, (List.range (N + 1 + j)).countP (metM N x) = N + sdig 2 j x.toNat
  | 0 => by
    rw [show N + 1 + 0 = N + 1 by omega, List.range_succ, List.countP_append, count_low]
    have : metM N x N = false := by unfold metM; rw [decide_eq_false (by omega : ¬ N < N)]; rfl
    simp [this, sdig]
  | j + 1 => by
    rw [show N + 1 + (j + 1) = N + 1 + j + 1 by omega, List.range_succ, List.countP_append, count_bits N x j, sdig_top2]
    have e : metM N x (N + 1 + j) = x.getLsbD j := by
      unfold metM
      rw [decide_eq_false (by omega : ¬ N + 1 + j < N), decide_eq_true (by omega : N < N + 1 + j), show N + 1 + j - N - 1 = j by omega]
      simp
    have b : x.getLsbD j = decide (x.toNat / 2 ^ j % 2 = 1) := by rw [BitVec.getLsbD, Nat.testBit_eq_decide_div_mod_eq]
    rw [List.countP_singleton, e, b]
    have : x.toNat / 2 ^ j % 2 = 0 ∨ x.toNat / 2 ^ j % 2 = 1 := by omega
    rcases this with h | h <;> simp [h] <;> omega

theorem count_far {f : Nat → Bool} {A : Nat} (h : ∀ k, A ≤ k → f k = false) : ∀ d, (List.range (A + d)).countP f = (List.range A).countP f
  | 0 => rfl
  | d + 1 => by
    rw [show A + (d + 1) = A + d + 1 by omega, List.range_succ, List.countP_append, count_far h d]
    simp [h (A + d) (by omega)]

theorem count_met {T N : Nat} {x : BitVec 64} (h : Good T N x) (hT : T ≤ 600) : (List.range 600).countP (metM N x) = N + cntN x.toNat := by
  have hN := h.next
  have far : ∀ k, 600 ≤ k → metM N x k = false := by
    intro k hk
    cases hm : metM N x k with
    | false => rfl
    | true => have := h.low k hm; omega
  have far2 : ∀ k, N + 65 ≤ k → metM N x k = false := by
    intro k hk
    unfold metM
    rw [decide_eq_false (by omega : ¬ k < N), BitVec.getLsbD_of_ge _ _ (by omega)]
    simp
  have e1 := count_far far (N + 65)
  have e2 := count_far far2 600
  rw [show 600 + (N + 65) = N + 65 + 600 by omega, e2] at e1
  rw [← e1, show N + 65 = N + 1 + 64 by omega, count_bits]
  rfl

theorem cnt_le : ∀ (n z : Nat), sdig 2 n z ≤ n
  | 0, _ => by simp [sdig]
  | n + 1, z => by have := cnt_le n (z / 2); rw [sdig]; omega

theorem many_nat {T N : Nat} {x : BitVec 64} (h : Good T N x) (hT : T ≤ 600) : manyV N x = ((List.range 600).countP (metM N x) : Int) := by
  have hN := h.next
  have hc : cntN x.toNat ≤ 64 := cnt_le 64 _
  rw [count_met h hT]
  unfold manyV wrap64
  omega

theorem Good.mono {T T' N : Nat} {x : BitVec 64} (h : Good T N x) (hT : T ≤ T') : Good T' N x := ⟨h.top, fun k hk => Nat.lt_of_lt_of_le (h.low k hk) hT⟩

theorem count_diff {f g : Nat → Bool} (h : ∀ k, g k = true → f k = true) : ∀ (l : List Nat), l.countP f = l.countP g + l.countP fun k => f k && !g k
  | [] => rfl
  | k :: l => by
    rw [List.countP_cons, List.countP_cons, List.countP_cons, count_diff h l]
    have := h k
    cases hg : g k <;> cases hf : f k <;> simp_all <;> omega

section
variable {T N M : Nat} {x y : BitVec 64}
theorem union_comm (hx : Good T N x) (hy : Good T M y) : unionM M y N x = unionM N x M y := by
  obtain ⟨a, -, -, c⟩ := union_spec hx hy
  obtain ⟨a', -, -, c'⟩ := union_spec hy hx
  obtain ⟨e1, e2⟩ := met_inj a'.top a.top (fun k => by rw [c k, c' k, Bool.or_comm])
  exact Prod.ext e1 e2
theorem union_again (hx : Good T N x) (hy : Good T M y) : unionM (unionM N x M y).1 (unionM N x M y).2 N x = unionM N x M y := by
  obtain ⟨a, -, -, c⟩ := union_spec hx hy
  obtain ⟨a', -, -, c'⟩ := union_spec a hx
  obtain ⟨e1, e2⟩ := met_inj a'.top a.top (fun k => by
    rw [c' k, c k]
    cases metM N x k <;> cases metM M y k <;> rfl)
  exact Prod.ext e1 e2
/-- How many Told meets. -/
theorem told_count (hx : Good T N x) (hy : Good T M y) (hT : T ≤ 600) :
    wrap64 (manyV (unionM N x M y).1 (unionM N x M y).2 - manyV N x) = ((List.range 600).countP (fun k => metM (unionM N x M y).1 (unionM N x M y).2 k && !metM N x k) : Int) := by
  obtain ⟨a, -, -, c⟩ := union_spec hx hy
  rw [many_nat a hT, many_nat hx hT, count_diff (f := metM (unionM N x M y).1 (unionM N x M y).2) (g := metM N x) (fun k hk => by rw [c k, hk]; rfl)]
  have := List.countP_le_length (p := fun k => metM (unionM N x M y).1 (unionM N x M y).2 k && !metM N x k) (l := List.range 600)
  rw [List.length_range] at this
  unfold wrap64
  omega
end
end Go.Proofs.YtkoajbmomipjkaaDoor
