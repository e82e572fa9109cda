/- How many bits a number has: the sum that is done by fields of 1, 2 and 4 bits. Nothing here names the program. -/
import Derived.Test.YtkoajbmomipjkaaDoorBits
namespace Go.Proofs.YtkoajbmomipjkaaDoor
set_option linter.unusedVariables false

theorem and_split {n a b c d : Nat} (ha : a < 2 ^ n) (hc : c < 2 ^ n) : (a + 2 ^ n * b) &&& (c + 2 ^ n * d) = (a &&& c) + 2 ^ n * (b &&& d) := by
  apply Nat.eq_of_testBit_eq
  intro i
  rw [Nat.testBit_and, Nat.add_comm a, Nat.add_comm c, Nat.add_comm (a &&& c), Nat.testBit_two_pow_mul_add _ ha, Nat.testBit_two_pow_mul_add _ hc, Nat.testBit_two_pow_mul_add _ (Nat.and_lt_two_pow _ hc)]
  split <;> rw [Nat.testBit_and]

/-- n fields of 2 k bits, the lower half of each set. -/
def maskK (k : Nat) : Nat → Nat
  | 0 => 0
  | n + 1 => (2 ^ k - 1) + 2 ^ (2 * k) * maskK k n

theorem and_mask (k n z : Nat) : z &&& maskK k (n + 1) = z % 2 ^ k + 2 ^ (2 * k) * (z / 2 ^ (2 * k) &&& maskK k n) := by
  have h1 : z = z % 2 ^ (2 * k) + 2 ^ (2 * k) * (z / 2 ^ (2 * k)) := (Nat.mod_add_div _ _).symm
  have hk : 2 ^ k ≤ 2 ^ (2 * k) := Nat.pow_le_pow_right (by decide) (by omega)
  have hp : 0 < 2 ^ k := Nat.two_pow_pos k
  conv => lhs; rw [h1]
  rw [maskK, and_split (Nat.mod_lt _ (Nat.two_pow_pos _)) (by omega), Nat.and_two_pow_sub_one_eq_mod, Nat.mod_mod_of_dvd _ (Nat.pow_dvd_pow 2 (by omega))]

/-- The sums of the fields, two and two. -/
def sumK (k n z : Nat) : Nat := (z / 2 ^ k &&& maskK k n) + (z &&& maskK k n)

theorem sumK_succ (k n z : Nat) : sumK k (n + 1) z = (z % 2 ^ k + z / 2 ^ k % 2 ^ k) + 2 ^ (2 * k) * sumK k n (z / 2 ^ k / 2 ^ k) := by
  unfold sumK
  rw [and_mask, and_mask]
  have h : 2 ^ (2 * k) = 2 ^ k * 2 ^ k := by rw [Nat.two_mul, Nat.pow_add]
  have h2 : z / 2 ^ k / 2 ^ (2 * k) = z / 2 ^ k / 2 ^ k / 2 ^ k := by rw [h, ← Nat.div_div_eq_div_mul]
  have h3 : z / 2 ^ (2 * k) = z / 2 ^ k / 2 ^ k := by rw [h, ← Nat.div_div_eq_div_mul]
  rw [h2, h3, Nat.mul_add]
  omega

/-- The sum of n digits. -/
def sdig (B : Nat) : Nat → Nat → Nat
  | 0, _ => 0
  | n + 1, z => z % B + sdig B n (z / B)
def Dle (B m : Nat) : Nat → Nat → Prop
  | 0, _ => True
  | n + 1, z => z % B ≤ m ∧ Dle B m n (z / B)

theorem low_high {k a b s : Nat} (hk : 0 < k) (ha : a < 2 ^ k) (hb : b < 2 ^ k) : (a + b + 2 ^ (2 * k) * s) % 2 ^ (2 * k) = a + b ∧ (a + b + 2 ^ (2 * k) * s) / 2 ^ (2 * k) = s := by
  have h1 : 2 * 2 ^ k ≤ 2 ^ (2 * k) := by
    rw [show 2 * 2 ^ k = 2 ^ (k + 1) by rw [Nat.pow_succ]; omega]
    exact Nat.pow_le_pow_right (by decide) (by omega)
  have h2 : a + b < 2 ^ (2 * k) := by omega
  exact ⟨by rw [Nat.add_mul_mod_self_left, Nat.mod_eq_of_lt h2], by rw [Nat.add_mul_div_left _ _ (Nat.two_pow_pos _), Nat.div_eq_of_lt h2, Nat.zero_add]⟩

theorem sumK_sd {k : Nat} (hk : 0 < k) : ∀ n z, sdig (2 ^ (2 * k)) n (sumK k n z) = sdig (2 ^ k) (2 * n) z
  | 0, z => rfl
  | n + 1, z => by
    obtain ⟨h1, h2⟩ := low_high (s := sumK k n (z / 2 ^ k / 2 ^ k)) hk (Nat.mod_lt z (Nat.two_pow_pos k)) (Nat.mod_lt (z / 2 ^ k) (Nat.two_pow_pos k))
    rw [sumK_succ, sdig, h1, h2, sumK_sd hk n, show 2 * (n + 1) = 2 * n + 1 + 1 by omega, sdig, sdig]
    omega

theorem sumK_le {k m : Nat} (hk : 0 < k) : ∀ n z, Dle (2 ^ k) m (2 * n) z → Dle (2 ^ (2 * k)) (2 * m) n (sumK k n z)
  | 0, z, _ => trivial
  | n + 1, z, h => by
    rw [show 2 * (n + 1) = 2 * n + 1 + 1 by omega, Dle, Dle] at h
    obtain ⟨h3, h4, h5⟩ := h
    obtain ⟨h1, h2⟩ := low_high (s := sumK k n (z / 2 ^ k / 2 ^ k)) hk (Nat.mod_lt z (Nat.two_pow_pos k)) (Nat.mod_lt (z / 2 ^ k) (Nat.two_pow_pos k))
    rw [sumK_succ, Dle, h1, h2]
    exact ⟨by omega, sumK_le hk n _ h5⟩

theorem dle_all (n z : Nat) : Dle 2 1 n z := by
  induction n generalizing z with
  | zero => trivial
  | succ n ih => exact ⟨by omega, ih _⟩

/-- Sums of small fields lie in the fields. -/
theorem sum16 : ∀ n z, Dle 16 4 (2 * n + 1) z → (z / 16 + z) &&& maskK 4 n = sumK 4 n z
  | 0, z, _ => by simp [maskK, sumK]
  | n + 1, z, h => by
    rw [show 2 * (n + 1) + 1 = 2 * n + 1 + 1 + 1 by omega] at h
    have h0 : z % 16 ≤ 4 := h.1
    have h1 : z / 16 % 16 ≤ 4 := h.2.1
    have h2 : Dle 16 4 (2 * n + 1) (z / 16 / 16) := h.2.2
    have h3 : z / 16 / 16 % 16 ≤ 4 := h2.1
    have ih := sum16 n _ h2
    rw [and_mask, sumK_succ]
    simp only [Nat.reducePow, Nat.reduceMul]
    have e1 : (z / 16 + z) % 16 = z % 16 + z / 16 % 16 := by omega
    have e2 : (z / 16 + z) / 256 = z / 16 / 16 / 16 + z / 16 / 16 := by omega
    rw [e1, e2, ih]

/-- The number of bits. -/
def cntN (z : Nat) : Nat := sdig 2 64 z

set_option maxHeartbeats 1000000 in
theorem sd8 (z : Nat) (h : z < 2 ^ 64) (hd : Dle 256 8 8 z) : let a := z + z / 256; let b := a + a / 65536; let c := b + b / 4294967296; c % 128 = sdig 256 8 z ∧ c < 2 ^ 62 := by
  intro a b c
  simp only [Dle, and_true] at hd
  obtain ⟨d0, d1, d2, d3, d4, d5, d6, d7⟩ := hd
  simp only [sdig, Nat.add_zero]
  obtain ⟨c0, h0⟩ : ∃ q, z % 256 = q := ⟨_, rfl⟩
  obtain ⟨z1, g0⟩ : ∃ q, z / 256 = q := ⟨_, rfl⟩
  rw [g0] at d1 d2 d3 d4 d5 d6 d7
  rw [g0, h0]
  rw [h0] at d0
  obtain ⟨c1, h1⟩ : ∃ q, z1 % 256 = q := ⟨_, rfl⟩
  obtain ⟨z2, g1⟩ : ∃ q, z1 / 256 = q := ⟨_, rfl⟩
  rw [g1] at d2 d3 d4 d5 d6 d7
  rw [g1, h1]
  rw [h1] at d1
  obtain ⟨c2, h2⟩ : ∃ q, z2 % 256 = q := ⟨_, rfl⟩
  obtain ⟨z3, g2⟩ : ∃ q, z2 / 256 = q := ⟨_, rfl⟩
  rw [g2] at d3 d4 d5 d6 d7
  rw [g2, h2]
  rw [h2] at d2
  obtain ⟨c3, h3⟩ : ∃ q, z3 % 256 = q := ⟨_, rfl⟩
  obtain ⟨z4, g3⟩ : ∃ q, z3 / 256 = q := ⟨_, rfl⟩
  rw [g3] at d4 d5 d6 d7
  rw [g3, h3]
  rw [h3] at d3
  obtain ⟨c4, h4⟩ : ∃ q, z4 % 256 = q := ⟨_, rfl⟩
  obtain ⟨z5, g4⟩ : ∃ q, z4 / 256 = q := ⟨_, rfl⟩
  rw [g4] at d5 d6 d7
  rw [g4, h4]
  rw [h4] at d4
  obtain ⟨c5, h5⟩ : ∃ q, z5 % 256 = q := ⟨_, rfl⟩
  obtain ⟨z6, g5⟩ : ∃ q, z5 / 256 = q := ⟨_, rfl⟩
  rw [g5] at d6 d7
  rw [g5, h5]
  rw [h5] at d5
  obtain ⟨c6, h6⟩ : ∃ q, z6 % 256 = q := ⟨_, rfl⟩
  obtain ⟨z7, g6⟩ : ∃ q, z6 / 256 = q := ⟨_, rfl⟩
  rw [g6] at d7
  rw [g6, h6]
  rw [h6] at d6
  have h7 : z7 < 256 := by omega
  have m7 : z7 % 256 = z7 := Nat.mod_eq_of_lt h7
  rw [m7] at d7
  rw [m7]
  have ha : a = (c0 + c1) + 256 * ((c1 + c2) + 256 * ((c2 + c3) + 256 * ((c3 + c4) + 256 * ((c4 + c5) + 256 * ((c5 + c6) + 256 * ((c6 + z7) + 256 * z7)))))) := by
    show z + z / 256 = _
    omega
  clear h g0 h0 g1 h1 g2 h2 g3 h3 g4 h4 g5 h5 g6 h6 h7 m7
  have ha2 : a / 65536 = (c2 + c3) + 256 * ((c3 + c4) + 256 * ((c4 + c5) + 256 * ((c5 + c6) + 256 * ((c6 + z7) + 256 * z7)))) := by
    rw [ha]; clear ha; omega
  have hb : b = (c0 + c1 + c2 + c3) + 256 * ((c1 + c2 + c3 + c4) + 256 * ((c2 + c3 + c4 + c5) + 256 * ((c3 + c4 + c5 + c6) + 256 * ((c4 + c5 + c6 + z7) + 256 * ((c5 + c6 + z7) + 256 * ((c6 + z7) + 256 * z7)))))) := by
    show a + a / 65536 = _
    rw [ha2, ha]; omega
  have hb2 : b / 4294967296 = (c4 + c5 + c6 + z7) + 256 * ((c5 + c6 + z7) + 256 * ((c6 + z7) + 256 * z7)) := by
    rw [hb]; clear hb ha ha2; omega
  obtain ⟨T1, hT1⟩ : ∃ q, (c1 + c2 + c3 + c4) + 256 * ((c2 + c3 + c4 + c5) + 256 * ((c3 + c4 + c5 + c6) + 256 * ((c4 + c5 + c6 + z7) + 256 * ((c5 + c6 + z7) + 256 * ((c6 + z7) + 256 * z7))))) = q := ⟨_, rfl⟩
  obtain ⟨T2, hT2⟩ : ∃ q, (c5 + c6 + z7) + 256 * ((c6 + z7) + 256 * z7) = q := ⟨_, rfl⟩
  rw [hT1] at hb
  rw [hT2] at hb2
  have hc : c = (c0 + c1 + c2 + c3 + c4 + c5 + c6 + z7) + 256 * (T1 + T2) := by
    show b + b / 4294967296 = _
    rw [hb2, hb]; clear hb hb2 ha ha2 hT1 hT2; omega
  have t1 : T1 < 2 ^ 52 := by clear hc hb hb2 ha ha2 hT2; omega
  have t2 : T2 < 2 ^ 52 := by clear hc hb hb2 ha ha2 hT1 t1; omega
  clear hb hb2 ha ha2 hT1 hT2
  rw [hc]
  constructor
  · omega
  · omega

theorem sdig_top (z : Nat) : sdig 2 64 z = sdig 2 (2 * 32) z := rfl

/-- What OnesCount64 reckons. -/
theorem ones_sum (x : Nat) (h : x < 2 ^ 64) :
    let y1 := (x / 2 &&& 6148914691236517205) + (x &&& 6148914691236517205)
    let y2 := (y1 / 4 &&& 3689348814741910323) + (y1 &&& 3689348814741910323)
    let y3 := (y2 / 16 + y2) &&& 1085102592571150095
    let y4 := y3 + y3 / 256
    let y5 := y4 + y4 / 65536
    let y6 := y5 + y5 / 4294967296
    y1 < 2 ^ 64 ∧ y2 < 2 ^ 64 ∧ y2 / 16 + y2 < 2 ^ 64 ∧ y3 < 2 ^ 61 ∧ y6 % 128 = cntN x ∧ y6 < 2 ^ 62 := by
  intro y1 y2 y3 y4 y5 y6
  have e1 : y1 = sumK 1 32 x := by
    show _ = _
    have : maskK 1 32 = 6148914691236517205 := by decide +kernel
    unfold sumK; rw [this]
  have e2 : y2 = sumK 2 16 y1 := by
    have : maskK 2 16 = 3689348814741910323 := by decide +kernel
    unfold sumK; rw [this]
  have d1 : Dle 4 2 32 y1 := by rw [e1]; exact sumK_le (k := 1) (m := 1) (by decide) 32 x (dle_all _ _)
  have d2 : Dle 16 4 16 y2 := by rw [e2]; exact sumK_le (k := 2) (m := 2) (by decide) 16 y1 d1
  have l1 : y1 < 2 ^ 64 := by
    show _ + _ < _
    have a := @Nat.and_le_right (x / 2) 6148914691236517205
    have b := @Nat.and_le_right x 6148914691236517205
    omega
  have l2 : y2 ≤ 7378697629483820646 := by
    show _ + _ ≤ _
    have a := @Nat.and_le_right (y1 / 4) 3689348814741910323
    have b := @Nat.and_le_right y1 3689348814741910323
    omega
  have d2' : Dle 16 4 (2 * 8 + 1) y2 := by
    simp only [Dle, and_true] at d2 ⊢
    refine ⟨d2.1, d2.2.1, d2.2.2.1, d2.2.2.2.1, d2.2.2.2.2.1, d2.2.2.2.2.2.1, d2.2.2.2.2.2.2.1, d2.2.2.2.2.2.2.2.1, d2.2.2.2.2.2.2.2.2.1, d2.2.2.2.2.2.2.2.2.2.1, d2.2.2.2.2.2.2.2.2.2.2.1, d2.2.2.2.2.2.2.2.2.2.2.2.1, d2.2.2.2.2.2.2.2.2.2.2.2.2.1, d2.2.2.2.2.2.2.2.2.2.2.2.2.2.1, d2.2.2.2.2.2.2.2.2.2.2.2.2.2.2.1, d2.2.2.2.2.2.2.2.2.2.2.2.2.2.2.2, ?_⟩
    simp only [Nat.div_div_eq_div_mul, Nat.reduceMul]
    rw [Nat.div_eq_of_lt (by omega)]; decide
  have e3 : y3 = sumK 4 8 y2 := by
    have : maskK 4 8 = 1085102592571150095 := by decide +kernel
    rw [← sum16 8 y2 d2', this]
  have d3 : Dle 256 8 8 y3 := by rw [e3]; exact sumK_le (k := 4) (m := 4) (by decide) 8 y2 d2
  have l3 : y3 ≤ 1085102592571150095 := Nat.and_le_right
  have s : sdig 256 8 y3 = cntN x := by
    have s3 : sdig 256 8 (sumK 4 8 y2) = sdig 16 16 y2 := sumK_sd (k := 4) (by decide) 8 y2
    have s2 : sdig 16 16 (sumK 2 16 y1) = sdig 4 32 y1 := sumK_sd (k := 2) (by decide) 16 y1
    have s1 : sdig 4 32 (sumK 1 32 x) = sdig 2 64 x := sumK_sd (k := 1) (by decide) 32 x
    rw [e3, s3, e2, s2, e1, s1]; rfl
  obtain ⟨r1, r2⟩ := sd8 y3 (by omega) d3
  exact ⟨l1, by omega, by omega, by omega, r1.trans s, r2⟩
theorem ones_vals (x : Nat) (h : x < 2 ^ 64) : ∃ A1 B1 y1 A2 B2 y2 y3 y4 y5 y6 : Nat, x / 2 &&& 6148914691236517205 = A1 ∧ x &&& 6148914691236517205 = B1 ∧ A1 + B1 = y1 ∧
    y1 / 4 &&& 3689348814741910323 = A2 ∧ y1 &&& 3689348814741910323 = B2 ∧ A2 + B2 = y2 ∧ (y2 / 16 + y2) &&& 1085102592571150095 = y3 ∧ y3 + y3 / 256 = y4 ∧ y4 + y4 / 65536 = y5 ∧ y5 + y5 / 4294967296 = y6 ∧
    y1 < 2 ^ 64 ∧ y2 < 2 ^ 64 ∧ y2 / 16 + y2 < 2 ^ 64 ∧ y3 < 2 ^ 61 ∧ y6 % 128 = cntN x ∧ y6 < 2 ^ 62 :=
  ⟨_, _, _, _, _, _, _, _, _, _, rfl, rfl, rfl, rfl, rfl, rfl, rfl, rfl, rfl, rfl, ones_sum x h⟩
end Go.Proofs.YtkoajbmomipjkaaDoor
