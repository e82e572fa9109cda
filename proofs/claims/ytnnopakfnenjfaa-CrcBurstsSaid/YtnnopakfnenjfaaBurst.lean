/- Plain laws of the register: it is linear, one step is one to one, bytes are bits one by one, and a difference within 32 bits that follow one another never goes away. -/
import Derived.Test.YtnnopakfnenjfaaSum
namespace Go.Proofs.Ytnnopakfnenjfaa
set_option linter.unusedVariables false

theorem stp_zero : stp 0#32 = 0#32 := by decide
theorem stpN_xor (k : Nat) (x y : BitVec 32) : stpN k (x ^^^ y) = stpN k x ^^^ stpN k y := by
  induction k with
  | zero => rfl
  | succ k ih => simp only [stpN, ih, stp_xor]
theorem stpN_add (j k : Nat) (x : BitVec 32) : stpN (j + k) x = stpN k (stpN j x) := by
  induction k with
  | zero => rfl
  | succ k ih => show stp (stpN (j + k) x) = stp (stpN k (stpN j x)); rw [ih]
theorem stpN_succ' (k : Nat) (x : BitVec 32) : stpN (k + 1) x = stpN k (stp x) := by
  rw [Nat.add_comm, stpN_add]; rfl

/-- One step is one to one. -/
theorem stp_inj0 (x : BitVec 32) (h : stp x = 0#32) : x = 0#32 := by
  rw [stp_if] at h
  cases hb : x.getLsbD 0
  · rw [hb] at h
    simp only [Bool.false_eq_true, if_false] at h
    apply BitVec.eq_of_getLsbD_eq
    intro i hi
    by_cases h0 : i = 0
    · subst h0; rw [hb]; simp
    · have := congrArg (fun y => y.getLsbD (i - 1)) h
      simp only [BitVec.getLsbD_ushiftRight] at this
      rw [show 1 + (i - 1) = i by omega] at this
      rw [this]; simp
  · rw [hb] at h
    simp only [if_true] at h
    have := congrArg (fun y => y.getLsbD 31) h
    rw [BitVec.getLsbD_xor, BitVec.getLsbD_ushiftRight, BitVec.getLsbD_of_ge x (1 + 31) (by omega)] at this
    exact absurd this (by decide)
theorem stpN_inj0 (k : Nat) (x : BitVec 32) (h : stpN k x = 0#32) : x = 0#32 := by
  induction k with
  | zero => exact h
  | succ k ih => exact ih (stp_inj0 _ h)
theorem xor_eq_zero {n : Nat} {x y : BitVec n} (h : x ^^^ y = 0#n) : x = y := by
  have := congrArg (· ^^^ y) h
  simpa [BitVec.xor_assoc] using this
theorem stpN_inj (k : Nat) {x y : BitVec 32} (h : stpN k x = stpN k y) : x = y := by
  apply xor_eq_zero
  apply stpN_inj0 k
  rw [stpN_xor, h, BitVec.xor_self]

theorem reg_xor (s s' : BitVec 32) (c c' : Nat → BitVec 8) (n : Nat) : reg (s ^^^ s') (fun i => c i ^^^ c' i) n = reg s c n ^^^ reg s' c' n := by
  induction n with
  | zero => rfl
  | succ n ih =>
    simp only [reg]
    rw [ih, ← stpN_xor]
    congr 1
    rw [BitVec.setWidth_xor, BitVec.xor_assoc, BitVec.xor_assoc, ← BitVec.xor_assoc (reg s' c' n), BitVec.xor_comm (reg s' c' n), BitVec.xor_assoc]

theorem reg_congr {s : BitVec 32} {c c' : Nat → BitVec 8} {n : Nat} (h : ∀ i, i < n → c i = c' i) : reg s c n = reg s c' n := by
  induction n with
  | zero => rfl
  | succ n ih => simp only [reg]; rw [ih (fun i hi => h i (by omega)), h n (by omega)]

theorem reg_add (s : BitVec 32) (c : Nat → BitVec 8) (m n : Nat) : reg s c (m + n) = reg (reg s c m) (fun i => c (m + i)) n := by
  induction n with
  | zero => rfl
  | succ n ih => show stpN 8 (reg s c (m + n) ^^^ _) = _; rw [ih]; rfl

theorem reg_zero (n : Nat) (c : Nat → BitVec 8) (h : ∀ i, i < n → c i = 0#8) : reg 0#32 c n = 0#32 := by
  induction n with
  | zero => rfl
  | succ n ih =>
    simp only [reg]
    rw [ih (fun i hi => h i (by omega)), h n (by omega)]
    decide

/-! ### Bit by bit -/
def bit0 (b : Bool) : BitVec 32 := if b then 1#32 else 0#32
def regb (s : BitVec 32) (e : Nat → Bool) : Nat → BitVec 32
  | 0 => s
  | k + 1 => stp (regb s e k ^^^ bit0 (e k))

theorem regb_add (s : BitVec 32) (e : Nat → Bool) (m n : Nat) : regb s e (m + n) = regb (regb s e m) (fun i => e (m + i)) n := by
  induction n with
  | zero => rfl
  | succ n ih => show stp (regb s e (m + n) ^^^ _) = _; rw [ih]; rfl

/-- The word of so many bits. -/
def word (e : Nat → Bool) : Nat → BitVec 32
  | 0 => 0#32
  | k + 1 => word e k ^^^ (bit0 (e k) <<< k)

theorem word_bit (e : Nat → Bool) (k : Nat) (hk : k ≤ 32) (i : Nat) : (word e k).getLsbD i = (decide (i < k) && e i) := by
  induction k with
  | zero => simp [word]
  | succ k ih =>
    simp only [word]
    rw [BitVec.getLsbD_xor, ih (by omega), BitVec.getLsbD_shiftLeft]
    have hb : ∀ j, (bit0 (e k)).getLsbD j = (decide (j = 0) && e k) := by
      intro j; unfold bit0; cases e k <;> simp [BitVec.getLsbD_one]
    rw [hb]
    by_cases h1 : i < k
    · have : decide (i < k) = true := by simp [h1]
      simp [h1, show i < k + 1 by omega, show i < 32 by omega]
    · by_cases h2 : i = k
      · subst h2; simp; intro h; omega
      · simp [h1, show ¬ i < k + 1 by omega, show ¬ i - k = 0 by omega]

theorem stpN_shift (k : Nat) (hk : k < 32) (b : Bool) : stpN k (bit0 b <<< k) = bit0 b := by
  induction k with
  | zero => simp [stpN]
  | succ k ih =>
    rw [stpN_succ']
    have : stp (bit0 b <<< (k + 1)) = bit0 b <<< k := by
      rw [stp_if]
      have h0 : (bit0 b <<< (k + 1)).getLsbD 0 = false := by simp
      rw [h0]
      simp only [Bool.false_eq_true, if_false]
      apply BitVec.eq_of_getLsbD_eq
      intro i hi
      rw [BitVec.getLsbD_ushiftRight, BitVec.getLsbD_shiftLeft, BitVec.getLsbD_shiftLeft]
      have hb : ∀ j, (bit0 b).getLsbD j = (decide (j = 0) && b) := by
        intro j; unfold bit0; cases b <;> simp [BitVec.getLsbD_one]
      rw [hb, hb]
      by_cases h1 : i < k
      · simp [h1, show 1 + i < k + 1 by omega]
      · by_cases h2 : i = k
        · subst h2; simp [hi, Nat.add_comm]; intro _; omega
        · simp [show ¬ 1 + i - (k + 1) = 0 by omega, show ¬ i - k = 0 by omega]
    rw [this, ih (by omega)]

/-- Up to 32 bits, taken one by one, are a word taken at once. -/
theorem regb_word (s : BitVec 32) (e : Nat → Bool) (k : Nat) (hk : k ≤ 32) : regb s e k = stpN k (s ^^^ word e k) := by
  induction k with
  | zero => simp [regb, word, stpN]
  | succ k ih =>
    simp only [regb, word]
    have e1 : stpN k (s ^^^ word e k) ^^^ bit0 (e k) = stpN k (s ^^^ (word e k ^^^ (bit0 (e k) <<< k))) := by
      rw [← BitVec.xor_assoc, stpN_xor k (s ^^^ word e k), stpN_shift k (by omega) (e k)]
    rw [ih (by omega), e1]
    rfl

theorem regb_zeros (s : BitVec 32) (e : Nat → Bool) (k : Nat) (h : ∀ i, i < k → e i = false) : regb s e k = stpN k s := by
  induction k with
  | zero => rfl
  | succ k ih =>
    simp only [regb, stpN]
    rw [ih (fun i hi => h i (by omega)), h k (by omega)]
    simp [bit0]

/-- A byte is its eight bits. -/
theorem word_byte (c : BitVec 8) : word (fun i => c.getLsbD i) 8 = c.setWidth 32 := by
  apply BitVec.eq_of_getLsbD_eq
  intro i hi
  rw [word_bit _ 8 (by omega), BitVec.getLsbD_setWidth]
  by_cases h : i < 8
  · simp [h, hi]
  · simp [h, BitVec.getLsbD_of_ge c i (by omega)]

def bitsOfBytes (c : Nat → BitVec 8) : Nat → Bool := fun k => (c (k / 8)).getLsbD (k % 8)

theorem regb_congr {s : BitVec 32} {e e' : Nat → Bool} {n : Nat} (h : ∀ i, i < n → e i = e' i) : regb s e n = regb s e' n := by
  induction n with
  | zero => rfl
  | succ n ih => simp only [regb]; rw [ih (fun i hi => h i (by omega)), h n (by omega)]

theorem reg_bits (s : BitVec 32) (c : Nat → BitVec 8) (n : Nat) : reg s c n = regb s (bitsOfBytes c) (8 * n) := by
  induction n with
  | zero => rfl
  | succ n ih =>
    rw [show 8 * (n + 1) = 8 * n + 8 by omega, regb_add, ← ih]
    have : regb (reg s c n) (fun i => bitsOfBytes c (8 * n + i)) 8 = regb (reg s c n) (fun i => (c n).getLsbD i) 8 := by
      apply regb_congr
      intro i hi
      simp only [bitsOfBytes]
      rw [show (8 * n + i) / 8 = n by omega, show (8 * n + i) % 8 = i by omega]
    rw [this, regb_word _ _ 8 (by omega), word_byte]
    rfl

/-- A difference within 32 bits that follow one another never goes away. -/
theorem burst (e : Nat → Bool) (p n : Nat) (h1 : ∀ k, k < p → e k = false) (h2 : ∀ k, p + 32 ≤ k → k < n → e k = false) :
    regb 0#32 e n = 0#32 ↔ ∀ k, k < n → e k = false := by
  constructor
  · intro h
    by_cases hpn : n ≤ p
    · intro k hk; exact h1 k (by omega)
    · obtain ⟨m, rfl⟩ : ∃ m, n = p + m := ⟨n - p, by omega⟩
      rw [regb_add, regb_zeros _ _ _ h1] at h
      have hz : stpN p 0#32 = 0#32 := by
        have : ∀ q, stpN q 0#32 = 0#32 := fun q => by
          induction q with
          | zero => rfl
          | succ q ih => simp only [stpN, ih, stp_zero]
        exact this p
      rw [hz] at h
      have key : ∀ q, q ≤ 32 → q ≤ m → word (fun i => e (p + i)) q = 0#32 → ∀ i, i < q → e (p + i) = false := by
        intro q hq _ hw i hi
        have hg : (word (fun i => e (p + i)) q).getLsbD i = (0#32).getLsbD i := by rw [hw]
        rw [word_bit _ q hq] at hg
        simpa [hi] using hg
      by_cases hm : m ≤ 32
      · rw [regb_word _ _ m hm, BitVec.zero_xor] at h
        have hw := key m hm (Nat.le_refl _) (stpN_inj0 _ _ h)
        intro k hk
        by_cases hkp : k < p
        · exact h1 k hkp
        · have := hw (k - p) (by omega); rwa [show p + (k - p) = k by omega] at this
      · obtain ⟨r, rfl⟩ : ∃ r, m = 32 + r := ⟨m - 32, by omega⟩
        rw [regb_add, regb_zeros _ _ r (fun i hi => h2 _ (by omega) (by omega))] at h
        have h' := stpN_inj0 _ _ h
        rw [regb_word _ _ 32 (by omega), BitVec.zero_xor] at h'
        have hw := key 32 (by omega) (by omega) (stpN_inj0 _ _ h')
        intro k hk
        by_cases hkp : k < p
        · exact h1 k hkp
        · by_cases hk2 : p + 32 ≤ k
          · exact h2 k hk2 hk
          · have := hw (k - p) (by omega); rwa [show p + (k - p) = k by omega] at this
  · intro h
    rw [regb_zeros _ _ _ h]
    have : ∀ q, stpN q 0#32 = 0#32 := fun q => by
      induction q with
      | zero => rfl
      | succ q ih => simp only [stpN, ih, stp_zero]
    exact this n

end Go.Proofs.Ytnnopakfnenjfaa
