/- Plain laws of the register: it is linear, one step is one to one, bytes are bits one by one, and a difference within 32 bits that follow one another never goes away. -/
import Derived.Test.YtilpkfgdlehmpaaDoorCSum
import Derived.Test.YtilpkfgdlehmpaaDoorCSeal
namespace Go.Proofs.YtilpkfgdlehmpaaDoor.Crc
set_option linter.unusedVariables false

theorem stp_zero : stp 0#32 = 0#32 := by decide
theorem stpN_xor (k : Nat) (x y : BitVec 32) : stpN k (x ^^^ y) = stpN k x ^^^ stpN k y := by
  induction k with
  | zero => rfl
  | succ k ih => simp only [stpN, ih, stp_xor]
theorem stpN_add (j k : Nat) (x : BitVec 32) : stpN (j + k) x = stpN k (stpN j x) := by
  induction k with
  | zero => rfl
  | succ k ih => show stp (stpN (j + k) x) = stp (stpN k (stpN j x)); rw [ih]
theorem stpN_succ' (k : Nat) (x : BitVec 32) : stpN (k + 1) x = stpN k (stp x) := by
  rw [Nat.add_comm, stpN_add]; rfl

/-- One step is one to one. -/
theorem stp_inj0 (x : BitVec 32) (h : stp x = 0#32) : x = 0#32 := by
  rw [stp_if] at h
  cases hb : x.getLsbD 0
  · rw [hb] at h
    simp only [Bool.false_eq_true, if_false] at h
    apply BitVec.eq_of_getLsbD_eq
    intro i hi
    by_cases h0 : i = 0
    · subst h0; rw [hb]; simp
    · have := congrArg (fun y => y.getLsbD (i - 1)) h
      simp only [BitVec.getLsbD_ushiftRight] at this
      rw [show 1 + (i - 1) = i by omega] at this
      rw [this]; simp
  · rw [hb] at h
    simp only [if_true] at h
    have := congrArg (fun y => y.getLsbD 31) h
    rw [BitVec.getLsbD_xor, BitVec.getLsbD_ushiftRight, BitVec.getLsbD_of_ge x (1 + 31) (by omega)] at this
    exact absurd this (by decide)
theorem stpN_inj0 (k : Nat) (x : BitVec 32) (h : stpN k x = 0#32) : x = 0#32 := by
  induction k with
  | zero => exact h
  | succ k ih => exact ih (stp_inj0 _ h)
theorem xor_eq_zero {n : Nat} {x y : BitVec n} (h : x ^^^ y = 0#n) : x = y := by
  have := congrArg (· ^^^ y) h
  simpa [BitVec.xor_assoc] using this
theorem stpN_inj (k : Nat) {x y : BitVec 32} (h : stpN k x = stpN k y) : x = y := by
  apply xor_eq_zero
  apply stpN_inj0 k
  rw [stpN_xor, h, BitVec.xor_self]

theorem reg_xor (s s' : BitVec 32) (c c' : Nat → BitVec 8) (n : Nat) : reg (s ^^^ s') (fun i => c i ^^^ c' i) n = reg s c n ^^^ reg s' c' n := by
  induction n with
  | zero => rfl
  | succ n ih =>
    simp only [reg]
    rw [ih, ← stpN_xor]
    congr 1
    rw [BitVec.setWidth_xor, BitVec.xor_assoc, BitVec.xor_assoc, ← BitVec.xor_assoc (reg s' c' n), BitVec.xor_comm (reg s' c' n), BitVec.xor_assoc]

theorem reg_congr {s : BitVec 32} {c c' : Nat → BitVec 8} {n : Nat} (h : ∀ i, i < n → c i = c' i) : reg s c n = reg s c' n := by
  induction n with
  | zero => rfl
  | succ n ih => simp only [reg]; rw [ih (fun i hi => h i (by omega)), h n (by omega)]

theorem reg_add (s : BitVec 32) (c : Nat → BitVec 8) (m n : Nat) : reg s c (m + n) = reg (reg s c m) (fun i => c (m + i)) n := by
  induction n with
  | zero => rfl
  | succ n ih => show stpN 8 (reg s c (m + n) ^^^ _) = _; rw [ih]; rfl

theorem reg_zero (n : Nat) (c : Nat → BitVec 8) (h : ∀ i, i < n → c i = 0#8) : reg 0#32 c n = 0#32 := by
  induction n with
  | zero => rfl
  | succ n ih =>
    simp only [reg]
    rw [ih (fun i hi => h i (by omega)), h n (by omega)]
    decide

/-! ### Bit by bit -/
def bit0 (b : Bool) : BitVec 32 := if b then 1#32 else 0#32
def regb (s : BitVec 32) (e : Nat → Bool) : Nat → BitVec 32
  | 0 => s
  | k + 1 => stp (regb s e k ^^^ bit0 (e k))

theorem regb_add (s : BitVec 32) (e : Nat → Bool) (m n : Nat) : regb s e (m + n) = regb (regb s e m) (fun i => e (m + i)) n := by
  induction n with
  | zero => rfl
  | succ n ih => show stp (regb s e (m + n) ^^^ _) = _; rw [ih]; rfl

/-- The word of so many bits. -/
def word (e : Nat → Bool) : Nat → BitVec 32
  | 0 => 0#32
  | k + 1 => word e k ^^^ (bit0 (e k) <<< k)

theorem word_bit (e : Nat → Bool) (k : Nat) (hk : k ≤ 32) (i : Nat) : (word e k).getLsbD i = (decide (i < k) && e i) := by
  induction k with
  | zero => simp [word]
  | succ k ih =>
    simp only [word]
    rw [BitVec.getLsbD_xor, ih (by omega), BitVec.getLsbD_shiftLeft]
    have hb : ∀ j, (bit0 (e k)).getLsbD j = (decide (j = 0) && e k) := by
      intro j; unfold bit0; cases e k <;> simp [BitVec.getLsbD_one]
    rw [hb]
    by_cases h1 : i < k
    · have : decide (i < k) = true := by simp [h1]
      simp [h1, show i < k + 1 by omega, show i < 32 by omega]
    · by_cases h2 : i = k
      · subst h2; simp; intro h; omega
      · simp [h1, show ¬ i < k + 1 by omega, show ¬ i - k = 0 by omega]

theorem stpN_shift (k : Nat) (hk : k < 32) (b : Bool) : stpN k (bit0 b <<< k) = bit0 b := by
  induction k with
  | zero => simp [stpN]
  | succ k ih =>
    rw [stpN_succ']
    have : stp (bit0 b <<< (k + 1)) = bit0 b <<< k := by
      rw [stp_if]
      have h0 : (bit0 b <<< (k + 1)).getLsbD 0 = false := by simp
      rw [h0]
      simp only [Bool.false_eq_true, if_false]
      apply BitVec.eq_of_getLsbD_eq
      intro i hi
      rw [BitVec.getLsbD_ushiftRight, BitVec.getLsbD_shiftLeft, BitVec.getLsbD_shiftLeft]
      have hb : ∀ j, (bit0 b).getLsbD j = (decide (j = 0) && b) := by
        intro j; unfold bit0; cases b <;> simp [BitVec.getLsbD_one]
      rw [hb, hb]
      by_cases h1 : i < k
      · simp [h1, show 1 + i < k + 1 by omega]
      · by_cases h2 : i = k
        · subst h2; simp [hi, Nat.add_comm]; intro _; omega
        · simp [show ¬ 1 + i - (k + 1) = 0 by omega, show ¬ i - k = 0 by omega]
    rw [this, ih (by omega)]

/-- Up to 32 bits, taken one by one, are a word taken at once. -/
theorem regb_word (s : BitVec 32) (e : Nat → Bool) (k : Nat) (hk : k ≤ 32) : regb s e k = stpN k (s ^^^ word e k) := by
  induction k with
  | zero => simp [regb, word, stpN]
  | succ k ih =>
    simp only [regb, word]
    have e1 : stpN k (s ^^^ word e k) ^^^ bit0 (e k) = stpN k (s ^^^ (word e k ^^^ (bit0 (e k) <<< k))) := by
      rw [← BitVec.xor_assoc, stpN_xor k (s ^^^ word e k), stpN_shift k (by omega) (e k)]
    rw [ih (by omega), e1]
    rfl

theorem regb_zeros (s : BitVec 32) (e : Nat → Bool) (k : Nat) (h : ∀ i, i < k → e i = false) : regb s e k = stpN k s := by
  induction k with
  | zero => rfl
  | succ k ih =>
    simp only [regb, stpN]
    rw [ih (fun i hi => h i (by omega)), h k (by omega)]
    simp [bit0]

/-- A byte is its eight bits. -/
theorem word_byte (c : BitVec 8) : word (fun i => c.getLsbD i) 8 = c.setWidth 32 := by
  apply BitVec.eq_of_getLsbD_eq
  intro i hi
  rw [word_bit _ 8 (by omega), BitVec.getLsbD_setWidth]
  by_cases h : i < 8
  · simp [h, hi]
  · simp [h, BitVec.getLsbD_of_ge c i (by omega)]

def bitsOfBytes (c : Nat → BitVec 8) : Nat → Bool := fun k => (c (k / 8)).getLsbD (k % 8)

theorem regb_congr {s : BitVec 32} {e e' : Nat → Bool} {n : Nat} (h : ∀ i, i < n → e i = e' i) : regb s e n = regb s e' n := by
  induction n with
  | zero => rfl
  | succ n ih => simp only [regb]; rw [ih (fun i hi => h i (by omega)), h n (by omega)]

theorem reg_bits (s : BitVec 32) (c : Nat → BitVec 8) (n : Nat) : reg s c n = regb s (bitsOfBytes c) (8 * n) := by
  induction n with
  | zero => rfl
  | succ n ih =>
    rw [show 8 * (n + 1) = 8 * n + 8 by omega, regb_add, ← ih]
    have : regb (reg s c n) (fun i => bitsOfBytes c (8 * n + i)) 8 = regb (reg s c n) (fun i => (c n).getLsbD i) 8 := by
      apply regb_congr
      intro i hi
      simp only [bitsOfBytes]
      rw [show (8 * n + i) / 8 = n by omega, show (8 * n + i) % 8 = i by omega]
    rw [this, regb_word _ _ 8 (by omega), word_byte]
    rfl

/-- A difference within 32 bits that follow one another never goes away. -/
theorem burst (e : Nat → Bool) (p n : Nat) (h1 : ∀ k, k < p → e k = false) (h2 : ∀ k, p + 32 ≤ k → k < n → e k = false) :
    regb 0#32 e n = 0#32 ↔ ∀ k, k < n → e k = false := by
  constructor
  · intro h
    by_cases hpn : n ≤ p
    · intro k hk; exact h1 k (by omega)
    · obtain ⟨m, rfl⟩ : ∃ m, n = p + m := ⟨n - p, by omega⟩
      rw [regb_add, regb_zeros _ _ _ h1] at h
      have hz : stpN p 0#32 = 0#32 := by
        have : ∀ q, stpN q 0#32 = 0#32 := fun q => by
          induction q with
          | zero => rfl
          | succ q ih => simp only [stpN, ih, stp_zero]
        exact this p
      rw [hz] at h
      have key : ∀ q, q ≤ 32 → q ≤ m → word (fun i => e (p + i)) q = 0#32 → ∀ i, i < q → e (p + i) = false := by
        intro q hq _ hw i hi
        have hg : (word (fun i => e (p + i)) q).getLsbD i = (0#32).getLsbD i := by rw [hw]
        rw [word_bit _ q hq] at hg
        simpa [hi] using hg
      by_cases hm : m ≤ 32
      · rw [regb_word _ _ m hm, BitVec.zero_xor] at h
        have hw := key m hm (Nat.le_refl _) (stpN_inj0 _ _ h)
        intro k hk
        by_cases hkp : k < p
        · exact h1 k hkp
        · have := hw (k - p) (by omega); rwa [show p + (k - p) = k by omega] at this
      · obtain ⟨r, rfl⟩ : ∃ r, m = 32 + r := ⟨m - 32, by omega⟩
        rw [regb_add, regb_zeros _ _ r (fun i hi => h2 _ (by omega) (by omega))] at h
        have h' := stpN_inj0 _ _ h
        rw [regb_word _ _ 32 (by omega), BitVec.zero_xor] at h'
        have hw := key 32 (by omega) (by omega) (stpN_inj0 _ _ h')
        intro k hk
        by_cases hkp : k < p
        · exact h1 k hkp
        · by_cases hk2 : p + 32 ≤ k
          · exact h2 k hk2 hk
          · have := hw (k - p) (by omega); rwa [show p + (k - p) = k by omega] at this
  · intro h
    rw [regb_zeros _ _ _ h]
    have : ∀ q, stpN q 0#32 = 0#32 := fun q => by
      induction q with
      | zero => rfl
      | succ q ih => simp only [stpN, ih, stp_zero]
    exact this n

end Go.Proofs.YtilpkfgdlehmpaaDoor.Crc
/- Plain laws of sealed bytes of which bits are turned: they are open just where none is turned, and the sum of the first part differs just where one of its bits is turned. -/
namespace Go.Proofs.YtilpkfgdlehmpaaDoor.Crc
set_option linter.unusedVariables false

theorem xor_bits (a b c d : Bool) : ((a ^^ b) ^^ (c ^^ d)) = ((a ^^ c) ^^ (b ^^ d)) := by cases a <;> cases b <;> cases c <;> cases d <;> rfl

theorem bit0_xor (a b : Bool) : bit0 (a ^^ b) = bit0 a ^^^ bit0 b := by cases a <;> cases b <;> decide

theorem regb_xor (s s' : BitVec 32) (e e' : Nat → Bool) (n : Nat) : regb (s ^^^ s') (fun i => e i ^^ e' i) n = regb s e n ^^^ regb s' e' n := by
  induction n with
  | zero => rfl
  | succ n ih =>
    simp only [regb]
    rw [ih, ← stp_xor, bit0_xor]
    congr 1
    rw [BitVec.xor_assoc, BitVec.xor_assoc, ← BitVec.xor_assoc (regb s' e' n), BitVec.xor_comm (regb s' e' n), BitVec.xor_assoc]

section
variable (len p : Nat) (flip : Nat → Bool)

/-- The bytes behind i rounds. -/
def tw (s : List (BitVec 8)) : Nat → List (BitVec 8)
  | 0 => s
  | i + 1 => if flip i then (tw s i).set ((p + i) / 8) ((tw s i).getD ((p + i) / 8) 0 ^^^ (1#8 <<< ((p + i) % 8))) else tw s i

theorem tw_length (s : List (BitVec 8)) (i : Nat) : (tw p flip s i).length = s.length := by
  induction i with
  | zero => rfl
  | succ i ih => simp only [tw]; split <;> simp [ih]

/-- Which bits differ. -/
def dif (i k : Nat) : Bool := decide (p ≤ k) && decide (k - p < i) && flip (k - p)

theorem one_bit (r b : Nat) (hb : b < 8) (hr : r < 8) : (1#8 <<< r).getLsbD b = decide (b = r) := by
  rw [BitVec.getLsbD_shiftLeft]
  by_cases h : b = r
  · subst h; simp [hb]
  · by_cases h2 : b < r
    · simp [h, h2]
    · have : ¬ b - r = 0 := by omega
      simp [h, BitVec.getLsbD_one, this]

theorem tw_bits (s : List (BitVec 8)) (hf : ∀ i, flip i = true → p + i < 8 * s.length) (i k : Nat) (hk : k < 8 * s.length) :
    bitsOfBytes (cOf (tw p flip s i)) k = (bitsOfBytes (cOf s) k ^^ dif p flip i k) := by
  induction i with
  | zero => simp [tw, dif]
  | succ i ih =>
    have hd : dif p flip (i + 1) k = (dif p flip i k ^^ (decide (k = p + i) && flip i)) := by
      unfold dif
      by_cases h1 : p ≤ k
      · by_cases h2 : k - p < i
        · simp [h1, h2, show k - p < i + 1 by omega, show ¬ k = p + i by omega]
        · by_cases h3 : k = p + i
          · subst h3; simp
          · simp [h1, h2, h3, show ¬ k - p < i + 1 by omega]
      · simp [h1, show ¬ k = p + i by omega]
    rw [hd]
    simp only [tw]
    cases hfi : flip i
    · simp only [Bool.false_eq_true, if_false, Bool.and_false, Bool.xor_false]; exact ih
    · simp only [if_true, Bool.and_true]
      have hlt := hf i hfi
      have hl := tw_length p flip s i
      have hset : ∀ x j, j < s.length → cOf ((tw p flip s i).set ((p + i) / 8) x) j = if (p + i) / 8 = j then x else cOf (tw p flip s i) j := by
        intro x j hj
        simp only [cOf, List.getD_eq_getElem?_getD, List.getElem?_set, hl]
        by_cases h : (p + i) / 8 = j
        · simp [h, hj]
        · simp [h]
      unfold bitsOfBytes at ih ⊢
      rw [hset _ _ (by omega)]
      by_cases h : (p + i) / 8 = k / 8
      · rw [if_pos h]
        have e : (tw p flip s i).getD ((p + i) / 8) 0 = cOf (tw p flip s i) (k / 8) := by rw [h]; rfl
        rw [e, BitVec.getLsbD_xor, ih, one_bit _ _ (by omega) (by omega), ← Bool.xor_assoc]
        congr 1
        by_cases h3 : k = p + i
        · subst h3; simp
        · have : ¬ k % 8 = (p + i) % 8 := by omega
          simp [h3, this]
      · rw [if_neg h, ih]
        have : ¬ k = p + i := by rintro rfl; exact h rfl
        simp [this]

def turnedB (i : Nat) : Bool := (List.range i).any flip
def insideB (i : Nat) : Bool := (List.range i).any fun j => flip j && decide (p + j < 8 * len)

theorem any_succ (f : Nat → Bool) (i : Nat) : (List.range (i + 1)).any f = ((List.range i).any f || f i) := by
  rw [List.range_succ, List.any_append]; simp

theorem tw_none (s : List (BitVec 8)) (i : Nat) (h : turnedB flip i = false) : tw p flip s i = s := by
  induction i with
  | zero => rfl
  | succ i ih =>
    unfold turnedB at h ih
    rw [any_succ, Bool.or_eq_false_iff] at h
    simp only [tw, h.2]
    exact ih h.1
end

theorem cOf_take (x : List (BitVec 8)) (n i : Nat) (h : i < n) : cOf (x.take n) i = cOf x i := by
  simp [cOf, List.getD_eq_getElem?_getD, h]

theorem sumOf_take (x : List (BitVec 8)) (n : Nat) (h : n ≤ x.length) : sumOf (x.take n) = ~~~ reg (~~~ 0#32) (cOf x) n := by
  unfold sumOf more
  rw [List.length_take, Nat.min_eq_left h, reg_congr (fun i hi => cOf_take x n i hi)]

theorem sumB_bit (s : BitVec 32) (i : Nat) (hi : i < 32) : bitsOfBytes (cOf (sumB s)) i = s.getLsbD i := by
  unfold bitsOfBytes cOf sumB
  rcases (by omega : i / 8 = 0 ∨ i / 8 = 1 ∨ i / 8 = 2 ∨ i / 8 = 3) with h | h | h | h <;> rw [h] <;>
    simp [List.getD_eq_getElem?_getD, BitVec.getLsbD_ushiftRight, show i % 8 < 8 by omega] <;> congr 1 <;> omega

theorem four_word (y : List (BitVec 8)) (hy : y.length = 4) (s : BitVec 32) : sumB s = y ↔ word (bitsOfBytes (cOf y)) 32 = s := by
  constructor
  · rintro rfl
    apply BitVec.eq_of_getLsbD_eq
    intro i hi
    rw [word_bit _ 32 (by omega), sumB_bit s i hi]; simp [hi]
  · intro h
    apply List.ext_getElem (by rw [hy]; rfl)
    intro j h1 h2
    have hj : j < 4 := h1
    apply BitVec.eq_of_getLsbD_eq
    intro b hb
    have e1 := sumB_bit s (8 * j + b) (by omega)
    have e2 : s.getLsbD (8 * j + b) = bitsOfBytes (cOf y) (8 * j + b) := by
      rw [← h, word_bit _ 32 (by omega)]; simp [show 8 * j + b < 32 by omega]
    rw [e2] at e1
    unfold bitsOfBytes at e1
    rw [show (8 * j + b) / 8 = j by omega, show (8 * j + b) % 8 = b by omega] at e1
    simp only [cOf, List.getD_eq_getElem?_getD, List.getElem?_eq_getElem h1, List.getElem?_eq_getElem h2, Option.getD_some] at e1
    exact e1

/-- Bytes are sealed just where the register comes to one number. -/
theorem sealed_iff (x : List (BitVec 8)) (n : Nat) (h : x.length = n + 4) : sealed (x.take n) = x ↔ reg (~~~ 0#32) (cOf x) (n + 4) = stpN 32 (BitVec.allOnes 32) := by
  have ht := List.take_append_drop n x
  have h1 : sealed (x.take n) = x ↔ sumB (sumOf (x.take n)) = x.drop n := by
    unfold sealed
    constructor
    · intro hs; have := hs.trans ht.symm; exact List.append_cancel_left this
    · intro hs; rw [hs, ht]
  rw [h1, four_word _ (by simp [h]), sumOf_take x n (by omega), reg_add, reg_bits _ _ 4, regb_word _ _ 32 (by omega)]
  have e : word (bitsOfBytes fun i => cOf x (n + i)) 32 = word (bitsOfBytes (cOf (x.drop n))) 32 := by
    congr 1
    funext k
    unfold bitsOfBytes
    simp [cOf, List.getD_eq_getElem?_getD, List.getElem?_drop]
  rw [← e]
  generalize word (bitsOfBytes fun i => cOf x (n + i)) 32 = W
  generalize reg (~~~ 0#32) (cOf x) n = r
  constructor
  · rintro rfl
    rw [show r ^^^ ~~~r = BitVec.allOnes 32 from by rw [← BitVec.allOnes_xor, ← BitVec.xor_assoc, BitVec.xor_comm r, BitVec.xor_assoc, BitVec.xor_self, BitVec.xor_zero]]
  · intro hh
    have := stpN_inj 32 hh
    have h2 : r ^^^ (r ^^^ W) = r ^^^ BitVec.allOnes 32 := by rw [this]
    rw [← BitVec.xor_assoc, BitVec.xor_self, BitVec.zero_xor, BitVec.xor_allOnes] at h2
    exact h2

theorem openE_iff (x : List (BitVec 8)) (n : Nat) (h : x.length = n + 4) : openE x = 0 ↔ sealed (x.take n) = x := by
  unfold openE
  rw [show x.length - 4 = n by omega]
  split
  · rename_i hh; exact ⟨fun _ => hh.2, fun _ => rfl⟩
  · rename_i hh; exact ⟨fun h => absurd h (by decide), fun hs => absurd ⟨by omega, hs⟩ hh⟩
theorem openE_or (x : List (BitVec 8)) : openE x = 0 ∨ openE x = 40 := by unfold openE; split <;> simp


theorem seal_len (bs : List (BitVec 8)) : (sealed bs).length = bs.length + 4 := by simp [sealed, sumB]

theorem tw_reg (bs : List (BitVec 8)) (p : Nat) (flip : Nat → Bool) (hf : ∀ i, flip i = true → p + i < 8 * (bs.length + 4)) (n : Nat) (hn : n ≤ bs.length + 4) : reg (~~~ 0#32) (cOf (tw p flip (sealed bs) 32)) n = reg (~~~ 0#32) (cOf (sealed bs)) n ^^^ regb 0#32 (dif p flip 32) (8 * n) := by
  rw [reg_bits, reg_bits, ← regb_xor]
  rw [BitVec.xor_zero]
  apply regb_congr
  intro k hk
  exact tw_bits p flip (sealed bs) (by rw [seal_len bs]; exact hf) 32 k (by rw [seal_len bs]; omega)

theorem dif_zero (p : Nat) (flip : Nat → Bool) (n : Nat) : regb 0#32 (dif p flip 32) (8 * n) = 0#32 ↔ ∀ k, k < 8 * n → dif p flip 32 k = false :=
  burst _ p _ (fun k hk => by simp [dif, show ¬ p ≤ k by omega]) (fun k hk _ => by simp [dif, show ¬ k - p < 32 by omega])

theorem xor_self_iff {x y : BitVec 32} : x ^^^ y = x ↔ y = 0#32 := by
  constructor
  · intro h
    have h2 : x ^^^ (x ^^^ y) = x ^^^ x := by rw [h]
    rwa [← BitVec.xor_assoc, BitVec.xor_self, BitVec.zero_xor] at h2
  · rintro rfl; simp

theorem burst_sum (bs : List (BitVec 8)) (p : Nat) (flip : Nat → Bool) (hf : ∀ i, flip i = true → p + i < 8 * (bs.length + 4)) : (sumOf ((tw p flip (sealed bs) 32).take bs.length) = sumOf bs) ↔ insideB bs.length p flip 32 = false := by
  have hl := tw_length p flip (sealed bs) 32
  rw [seal_len bs] at hl
  rw [sumOf_take _ _ (by omega), tw_reg bs p flip hf _ (by omega)]
  have hb : sumOf bs = ~~~ reg (~~~ 0#32) (cOf (sealed bs)) bs.length := by
    have := sumOf_take (sealed bs) bs.length (by rw [seal_len bs]; omega)
    rwa [show (sealed bs).take bs.length = bs from by simp [sealed]] at this
  rw [hb]
  have e : ∀ a b : BitVec 32, (~~~ a = ~~~ b) ↔ a = b := fun a b => by
    constructor
    · intro h; have := congrArg (~~~ ·) h; simpa using this
    · rintro rfl; rfl
  rw [e, xor_self_iff, dif_zero p flip]
  unfold insideB
  rw [List.any_eq_false]
  constructor
  · intro h j hj
    rw [List.mem_range] at hj
    intro hh
    rw [Bool.and_eq_true, decide_eq_true_iff] at hh
    have := h (p + j) hh.2
    simp [dif, hj, hh.1] at this
  · intro h k hk
    by_cases h1 : p ≤ k
    · by_cases h2 : k - p < 32
      · have := h (k - p) (List.mem_range.2 h2)
        rw [Bool.and_eq_true, decide_eq_true_iff] at this
        cases hfk : flip (k - p)
        · simp [dif, hfk]
        · exact absurd ⟨hfk, by omega⟩ this
      · simp [dif, h2]
    · simp [dif, h1]

theorem burst_open (bs : List (BitVec 8)) (p : Nat) (flip : Nat → Bool) (hf : ∀ i, flip i = true → p + i < 8 * (bs.length + 4)) : openE (tw p flip (sealed bs) 32) = 0 ↔ turnedB flip 32 = false := by
  have hl := tw_length p flip (sealed bs) 32
  rw [seal_len bs] at hl
  rw [openE_iff _ _ hl, sealed_iff _ _ hl, tw_reg bs p flip hf _ (by omega)]
  have hs : reg (~~~ 0#32) (cOf (sealed bs)) (bs.length + 4) = stpN 32 (BitVec.allOnes 32) :=
    (sealed_iff (sealed bs) bs.length (seal_len bs)).1 (by rw [show (sealed bs).take bs.length = bs from by simp [sealed]])
  rw [← hs, xor_self_iff, dif_zero p flip]
  unfold turnedB
  rw [List.any_eq_false]
  constructor
  · intro h j hj hh
    rw [List.mem_range] at hj
    have := h (p + j) (hf j hh)
    simp [dif, hj, hh] at this
  · intro h k hk
    by_cases h1 : p ≤ k
    · by_cases h2 : k - p < 32
      · have := h (k - p) (List.mem_range.2 h2)
        simp [dif, this]
      · simp [dif, h2]
    · simp [dif, h1]

end Go.Proofs.YtilpkfgdlehmpaaDoor.Crc
