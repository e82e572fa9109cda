/- What may be, and the last number met, in plain words. -/
import Derived.Test.YtkoajbmomipjkaaDoorFrames
namespace Go.Proofs.YtkoajbmomipjkaaDoor
set_option linter.unusedVariables false

theorem log_bounds {n : Nat} (h : n ≠ 0) : 2 ^ n.log2 ≤ n ∧ n < 2 ^ (n.log2 + 1) := (Nat.log2_eq_iff h).1 rfl

theorem len8_shift {n k : Nat} (h : 2 ^ k ≤ n) : len8 n = k + len8 (n / 2 ^ k) := by
  have hp : 0 < 2 ^ k := Nat.two_pow_pos k
  have h0 : n ≠ 0 := by omega
  have hq : n / 2 ^ k ≠ 0 := by have := Nat.div_pos h hp; omega
  obtain ⟨b1, b2⟩ := log_bounds hq
  unfold len8
  rw [if_neg h0, if_neg hq]
  have : n.log2 = k + (n / 2 ^ k).log2 := by
    rw [Nat.log2_eq_iff h0]
    generalize (n / 2 ^ k).log2 = j at *
    constructor
    · rw [Nat.pow_add]
      have := Nat.mul_le_mul_left (2 ^ k) b1
      exact Nat.le_trans this (Nat.mul_div_le n (2 ^ k))
    · rw [show k + j + 1 = k + (j + 1) by omega, Nat.pow_add]
      exact Nat.lt_of_lt_of_le ((Nat.div_lt_iff_lt_mul hp).1 b2) (Nat.le_of_eq (Nat.mul_comm _ _))
  omega

theorem lenV_nat (n : Nat) : lenV (n : Int) = len8 n := by
  have step : ∀ (z k c : Nat), 2 ^ k = c → (if (c : Int) ≤ (z : Int) then (k : Int) else 0) + (len8 (if (c : Int) ≤ (z : Int) then z / c else z) : Int) = (len8 z : Int) := by
    intro z k c hc
    subst hc
    by_cases h : 2 ^ k ≤ z
    · have h' : ((2 ^ k : Nat) : Int) ≤ (z : Int) := by exact_mod_cast h
      rw [if_pos h', if_pos h', len8_shift h]
      push_cast; rfl
    · have h' : ¬ ((2 ^ k : Nat) : Int) ≤ (z : Int) := by exact_mod_cast h
      rw [if_neg h', if_neg h', Int.zero_add]
  have e1 : l1 (n : Int) = ((if ((4294967296 : Nat) : Int) ≤ (n : Int) then n / 4294967296 else n : Nat) : Int) := by
    unfold l1
    by_cases h : ((4294967296 : Nat) : Int) ≤ (n : Int)
    · rw [if_pos h, if_pos (by exact h)]; rfl
    · rw [if_neg h, if_neg (by exact h)]
  obtain ⟨n1, hn1⟩ : ∃ q, (if ((4294967296 : Nat) : Int) ≤ (n : Int) then n / 4294967296 else n) = q := ⟨_, rfl⟩
  rw [hn1] at e1
  have e2 : l2 (n1 : Int) = ((if ((65536 : Nat) : Int) ≤ (n1 : Int) then n1 / 65536 else n1 : Nat) : Int) := by
    unfold l2
    by_cases h : ((65536 : Nat) : Int) ≤ (n1 : Int)
    · rw [if_pos h, if_pos (by exact h)]; rfl
    · rw [if_neg h, if_neg (by exact h)]
  obtain ⟨n2, hn2⟩ : ∃ q, (if ((65536 : Nat) : Int) ≤ (n1 : Int) then n1 / 65536 else n1) = q := ⟨_, rfl⟩
  rw [hn2] at e2
  have e3 : l3 (n2 : Int) = ((if ((256 : Nat) : Int) ≤ (n2 : Int) then n2 / 256 else n2 : Nat) : Int) := by
    unfold l3
    by_cases h : ((256 : Nat) : Int) ≤ (n2 : Int)
    · rw [if_pos h, if_pos (by exact h)]; rfl
    · rw [if_neg h, if_neg (by exact h)]
  obtain ⟨n3, hn3⟩ : ∃ q, (if ((256 : Nat) : Int) ≤ (n2 : Int) then n2 / 256 else n2) = q := ⟨_, rfl⟩
  rw [hn3] at e3
  have s1 := step n 32 4294967296 (by decide)
  have s2 := step n1 16 65536 (by decide)
  have s3 := step n2 8 256 (by decide)
  rw [hn1] at s1
  rw [hn2] at s2
  rw [hn3] at s3
  unfold lenV
  rw [e1, e2, e3, Int.toNat_natCast]
  simp only [Int.cast_ofNat_Int] at s1 s2 s3
  omega

theorem len8_le {n : Nat} (h : n < 2 ^ 64) : len8 n ≤ 64 := by
  unfold len8
  split
  · omega
  · next h0 =>
    obtain ⟨b1, -⟩ := log_bounds h0
    have : 2 ^ n.log2 < 2 ^ 64 := by omega
    have := (Nat.pow_lt_pow_iff_right (a := 2) (by decide)).1 this
    omega

theorem lastV_nat {N : Nat} {x : BitVec 64} (hN : N ≤ 4611686018427387904) : lastV N (U x) = ((N + len8 x.toNat : Nat) : Int) := by
  have h := len8_le x.isLt
  unfold lastV U
  rw [lenV_nat]
  generalize len8 x.toNat = k at *
  rw [IntKind.wrap_u64, IntKind.wrap_u64]
  omega

theorem len8_bit {x : BitVec 64} (h : x ≠ 0#64) : 0 < len8 x.toNat ∧ x.getLsbD (len8 x.toNat - 1) = true ∧ ∀ i, len8 x.toNat ≤ i → x.getLsbD i = false := by
  have h0 : x.toNat ≠ 0 := fun e => h (BitVec.eq_of_toNat_eq (by simpa using e))
  obtain ⟨b1, b2⟩ := log_bounds h0
  unfold len8
  rw [if_neg h0]
  refine ⟨by omega, ?_, fun i hi => ?_⟩
  · rw [BitVec.getLsbD, show x.toNat.log2 + 1 - 1 = x.toNat.log2 by omega, Nat.testBit_eq_decide_div_mod_eq, decide_eq_true_eq]
    have : x.toNat / 2 ^ x.toNat.log2 = 1 := by
      rw [Nat.pow_succ] at b2
      exact Nat.div_eq_of_lt_le (by omega) (by omega)
    rw [this]
  · rw [BitVec.getLsbD, Nat.testBit_lt_two_pow]
    exact Nat.lt_of_lt_of_le b2 (Nat.pow_le_pow_right (by decide) hi)

theorem len8_zero : len8 (0#64).toNat = 0 := by decide

theorem U_zero {x : BitVec 64} : U x = 0 ↔ x = 0#64 := by
  constructor
  · intro h; exact U_inj (h.trans (show (0 : Int) = U (0#64) from rfl))
  · rintro rfl; rfl

/-- The greatest number that was met behind next. -/
theorem top_len {N : Nat} {x : BitVec 64} (h : x ≠ 0#64) : topM N x = N + len8 x.toNat + 1 := by
  obtain ⟨-, a1, a2, a3, a4, a5⟩ := holes_spec N x
  obtain ⟨b1, b2, b3⟩ := len8_bit h
  have hne : topM N x ≠ N := fun e => h (a5.1 e)
  obtain ⟨c1, c2⟩ := a4.resolve_left hne
  have m1 : metM N x (N + len8 x.toNat) = true := by
    unfold metM
    rw [decide_eq_true (by omega : N < N + len8 x.toNat), show N + len8 x.toNat - N - 1 = len8 x.toNat - 1 by omega, b2]
    simp
  rcases Nat.lt_trichotomy (topM N x) (N + len8 x.toNat + 1) with h1 | h1 | h1
  · rw [a3 _ (by omega)] at m1; cases m1
  · exact h1
  · exfalso
    unfold metM at c2
    rw [decide_eq_false (by omega : ¬ topM N x - 1 < N), b3 _ (by omega)] at c2
    simp at c2

theorem may_good (N : Nat) (x : BitVec 64) : mayV N (U x) = true ↔ Good 4611686018427387904 N x := by
  unfold mayV
  rw [Bool.and_eq_true, Bool.and_eq_true, decide_eq_true_eq, decide_eq_true_eq, Bool.or_eq_true, beq_iff_eq, decide_eq_true_eq, U_zero]
  constructor
  · rintro ⟨h1, h2, h3⟩
    have ht : x.getLsbD 63 = false := top_clear (by unfold U at h2; omega)
    refine ⟨ht, fun k hk => ?_⟩
    unfold metM at hk
    rw [Bool.or_eq_true, Bool.and_eq_true, decide_eq_true_eq, decide_eq_true_eq] at hk
    rcases hk with hk | ⟨hk, hb⟩
    · omega
    · have hx : x ≠ 0#64 := by rintro rfl; simp at hb
      have h3 := h3.resolve_left hx
      rw [lastV_nat (by omega)] at h3
      obtain ⟨b1, b2, b3⟩ := len8_bit hx
      rcases Nat.lt_or_ge (k - N - 1) (len8 x.toNat) with h4 | h4
      · omega
      · rw [b3 _ h4] at hb; cases hb
  · intro h
    have hN := h.next
    refine ⟨by omega, ?_, ?_⟩
    · have : x.toNat < 2 ^ 63 := by
        rcases Nat.lt_or_ge x.toNat (2 ^ 63) with h1 | h1
        · exact h1
        · have ht := h.top
          rw [BitVec.getLsbD, Nat.testBit_eq_decide_div_mod_eq, decide_eq_false_iff_not] at ht
          have := x.isLt
          have : x.toNat / 2 ^ 63 = 1 := Nat.div_eq_of_lt_le (by omega) (by omega)
          rw [this] at ht
          exact (ht rfl).elim
      unfold U; omega
    · by_cases hx : x = 0#64
      · exact .inl hx
      · right
        rw [lastV_nat hN]
        obtain ⟨b1, b2, b3⟩ := len8_bit hx
        have m1 : metM N x (N + len8 x.toNat) = true := by
          unfold metM
          rw [decide_eq_true (by omega : N < N + len8 x.toNat), show N + len8 x.toNat - N - 1 = len8 x.toNat - 1 by omega, b2]
          simp
        have := h.low _ m1
        omega

theorem lastA_top {N : Nat} {x : BitVec 64} (h : Good 4611686018427387904 N x) : lastA N (U x) = if topM N x = 0 then (0, false) else (((topM N x - 1 : Nat) : Int), true) := by
  obtain ⟨-, a1, a2, a3, a4, a5⟩ := holes_spec N x
  have hN := h.next
  unfold lastA
  by_cases hx : x = 0#64
  · have ht := a5.2 hx
    have hu : U x = 0 := U_zero.2 hx
    rw [hu, ht]
    by_cases h0 : N = 0
    · rw [if_pos h0, if_pos ⟨by omega, rfl⟩]
    · rw [if_neg h0, if_neg (by omega), if_pos rfl, IntKind.wrap_u64]
      refine Prod.ext ?_ rfl
      simp only
      omega
  · have hu : U x ≠ 0 := fun e => hx (U_zero.1 e)
    have ht := top_len (N := N) hx
    rw [if_neg (fun e => hu e.2), if_neg hu, if_neg (by omega), lastV_nat hN, ht]
    rfl

/-- Told, of numbers that are written out. -/
theorem unionK {N M R : Nat} {x y z : BitVec 64} (hx : Good 4611686018427387904 N x) (hy : Good 4611686018427387904 M y) (hN : N ≤ 60) (hM : M ≤ 60) (hR : R ≤ 60) (hz : z.getLsbD 63 = false)
    (h : ∀ k : Fin 130, metM R z k.val = (metM N x k.val || metM M y k.val)) : unionM N x M y = (R, z) := by
  obtain ⟨a, -, -, c⟩ := union_spec hx hy
  have far : ∀ (Q : Nat) (v : BitVec 64) k, Q ≤ 60 → 130 ≤ k → metM Q v k = false := by
    intro Q v k h1 h2
    unfold metM
    rw [decide_eq_false (by omega : ¬ k < Q), BitVec.getLsbD_of_ge _ _ (by omega)]
    simp
  obtain ⟨e1, e2⟩ := met_inj a.top hz (fun k => by
    rw [c k]
    rcases Nat.lt_or_ge k 130 with h1 | h1
    · exact (h ⟨k, h1⟩).symm
    · rw [far _ _ _ hN h1, far _ _ _ hM h1, far _ _ _ hR h1]; rfl)
  exact Prod.ext e1 e2
end Go.Proofs.YtkoajbmomipjkaaDoor
