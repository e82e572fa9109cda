/- Plain laws of sealed bytes of which bits are turned: they are open just where none is turned, and the sum of the first part differs just where one of its bits is turned. -/
import Derived.Test.YtnnopakfnenjfaaBurst
import Derived.Test.YtnnopakfnenjfaaSeal
namespace Go.Proofs.Ytnnopakfnenjfaa
set_option linter.unusedVariables false

theorem xor_bits (a b c d : Bool) : ((a ^^ b) ^^ (c ^^ d)) = ((a ^^ c) ^^ (b ^^ d)) := by cases a <;> cases b <;> cases c <;> cases d <;> rfl

theorem bit0_xor (a b : Bool) : bit0 (a ^^ b) = bit0 a ^^^ bit0 b := by cases a <;> cases b <;> decide

theorem regb_xor (s s' : BitVec 32) (e e' : Nat → Bool) (n : Nat) : regb (s ^^^ s') (fun i => e i ^^ e' i) n = regb s e n ^^^ regb s' e' n := by
  induction n with
  | zero => rfl
  | succ n ih =>
    simp only [regb]
    rw [ih, ← stp_xor, bit0_xor]
    congr 1
    rw [BitVec.xor_assoc, BitVec.xor_assoc, ← BitVec.xor_assoc (regb s' e' n), BitVec.xor_comm (regb s' e' n), BitVec.xor_assoc]

section
variable (len p : Nat) (flip : Nat → Bool)

/-- The bytes behind i rounds. -/
def tw (s : List (BitVec 8)) : Nat → List (BitVec 8)
  | 0 => s
  | i + 1 => if flip i then (tw s i).set ((p + i) / 8) ((tw s i).getD ((p + i) / 8) 0 ^^^ (1#8 <<< ((p + i) % 8))) else tw s i

theorem tw_length (s : List (BitVec 8)) (i : Nat) : (tw p flip s i).length = s.length := by
  induction i with
  | zero => rfl
  | succ i ih => simp only [tw]; split <;> simp [ih]

/-- Which bits differ. -/
def dif (i k : Nat) : Bool := decide (p ≤ k) && decide (k - p < i) && flip (k - p)

theorem one_bit (r b : Nat) (hb : b < 8) (hr : r < 8) : (1#8 <<< r).getLsbD b = decide (b = r) := by
  rw [BitVec.getLsbD_shiftLeft]
  by_cases h : b = r
  · subst h; simp [hb]
  · by_cases h2 : b < r
    · simp [h, h2]
    · have : ¬ b - r = 0 := by omega
      simp [h, BitVec.getLsbD_one, this]

theorem tw_bits (s : List (BitVec 8)) (hf : ∀ i, flip i = true → p + i < 8 * s.length) (i k : Nat) (hk : k < 8 * s.length) :
    bitsOfBytes (cOf (tw p flip s i)) k = (bitsOfBytes (cOf s) k ^^ dif p flip i k) := by
  induction i with
  | zero => simp [tw, dif]
  | succ i ih =>
    have hd : dif p flip (i + 1) k = (dif p flip i k ^^ (decide (k = p + i) && flip i)) := by
      unfold dif
      by_cases h1 : p ≤ k
      · by_cases h2 : k - p < i
        · simp [h1, h2, show k - p < i + 1 by omega, show ¬ k = p + i by omega]
        · by_cases h3 : k = p + i
          · subst h3; simp
          · simp [h1, h2, h3, show ¬ k - p < i + 1 by omega]
      · simp [h1, show ¬ k = p + i by omega]
    rw [hd]
    simp only [tw]
    cases hfi : flip i
    · simp only [Bool.false_eq_true, if_false, Bool.and_false, Bool.xor_false]; exact ih
    · simp only [if_true, Bool.and_true]
      have hlt := hf i hfi
      have hl := tw_length p flip s i
      have hset : ∀ x j, j < s.length → cOf ((tw p flip s i).set ((p + i) / 8) x) j = if (p + i) / 8 = j then x else cOf (tw p flip s i) j := by
        intro x j hj
        simp only [cOf, List.getD_eq_getElem?_getD, List.getElem?_set, hl]
        by_cases h : (p + i) / 8 = j
        · simp [h, hj]
        · simp [h]
      unfold bitsOfBytes at ih ⊢
      rw [hset _ _ (by omega)]
      by_cases h : (p + i) / 8 = k / 8
      · rw [if_pos h]
        have e : (tw p flip s i).getD ((p + i) / 8) 0 = cOf (tw p flip s i) (k / 8) := by rw [h]; rfl
        rw [e, BitVec.getLsbD_xor, ih, one_bit _ _ (by omega) (by omega), ← Bool.xor_assoc]
        congr 1
        by_cases h3 : k = p + i
        · subst h3; simp
        · have : ¬ k % 8 = (p + i) % 8 := by omega
          simp [h3, this]
      · rw [if_neg h, ih]
        have : ¬ k = p + i := by rintro rfl; exact h rfl
        simp [this]

def turnedB (i : Nat) : Bool := (List.range i).any flip
def insideB (i : Nat) : Bool := (List.range i).any fun j => flip j && decide (p + j < 8 * len)

theorem any_succ (f : Nat → Bool) (i : Nat) : (List.range (i + 1)).any f = ((List.range i).any f || f i) := by
  rw [List.range_succ, List.any_append]; simp

theorem tw_none (s : List (BitVec 8)) (i : Nat) (h : turnedB flip i = false) : tw p flip s i = s := by
  induction i with
  | zero => rfl
  | succ i ih =>
    unfold turnedB at h ih
    rw [any_succ, Bool.or_eq_false_iff] at h
    simp only [tw, h.2]
    exact ih h.1
end

theorem cOf_take (x : List (BitVec 8)) (n i : Nat) (h : i < n) : cOf (x.take n) i = cOf x i := by
  simp [cOf, List.getD_eq_getElem?_getD, h]

theorem sumOf_take (x : List (BitVec 8)) (n : Nat) (h : n ≤ x.length) : sumOf (x.take n) = ~~~ reg (~~~ 0#32) (cOf x) n := by
  unfold sumOf more
  rw [List.length_take, Nat.min_eq_left h, reg_congr (fun i hi => cOf_take x n i hi)]

theorem sumB_bit (s : BitVec 32) (i : Nat) (hi : i < 32) : bitsOfBytes (cOf (sumB s)) i = s.getLsbD i := by
  unfold bitsOfBytes cOf sumB
  rcases (by omega : i / 8 = 0 ∨ i / 8 = 1 ∨ i / 8 = 2 ∨ i / 8 = 3) with h | h | h | h <;> rw [h] <;>
    simp [List.getD_eq_getElem?_getD, BitVec.getLsbD_ushiftRight, show i % 8 < 8 by omega] <;> congr 1 <;> omega

theorem four_word (y : List (BitVec 8)) (hy : y.length = 4) (s : BitVec 32) : sumB s = y ↔ word (bitsOfBytes (cOf y)) 32 = s := by
  constructor
  · rintro rfl
    apply BitVec.eq_of_getLsbD_eq
    intro i hi
    rw [word_bit _ 32 (by omega), sumB_bit s i hi]; simp [hi]
  · intro h
    apply List.ext_getElem (by rw [hy]; rfl)
    intro j h1 h2
    have hj : j < 4 := h1
    apply BitVec.eq_of_getLsbD_eq
    intro b hb
    have e1 := sumB_bit s (8 * j + b) (by omega)
    have e2 : s.getLsbD (8 * j + b) = bitsOfBytes (cOf y) (8 * j + b) := by
      rw [← h, word_bit _ 32 (by omega)]; simp [show 8 * j + b < 32 by omega]
    rw [e2] at e1
    unfold bitsOfBytes at e1
    rw [show (8 * j + b) / 8 = j by omega, show (8 * j + b) % 8 = b by omega] at e1
    simp only [cOf, List.getD_eq_getElem?_getD, List.getElem?_eq_getElem h1, List.getElem?_eq_getElem h2, Option.getD_some] at e1
    exact e1

/-- Bytes are sealed just where the register comes to one number. -/
theorem sealed_iff (x : List (BitVec 8)) (n : Nat) (h : x.length = n + 4) : sealed (x.take n) = x ↔ reg (~~~ 0#32) (cOf x) (n + 4) = stpN 32 (BitVec.allOnes 32) := by
  have ht := List.take_append_drop n x
  have h1 : sealed (x.take n) = x ↔ sumB (sumOf (x.take n)) = x.drop n := by
    unfold sealed
    constructor
    · intro hs; have := hs.trans ht.symm; exact List.append_cancel_left this
    · intro hs; rw [hs, ht]
  rw [h1, four_word _ (by simp [h]), sumOf_take x n (by omega), reg_add, reg_bits _ _ 4, regb_word _ _ 32 (by omega)]
  have e : word (bitsOfBytes fun i => cOf x (n + i)) 32 = word (bitsOfBytes (cOf (x.drop n))) 32 := by
    congr 1
    funext k
    unfold bitsOfBytes
    simp [cOf, List.getD_eq_getElem?_getD, List.getElem?_drop]
  rw [← e]
  generalize word (bitsOfBytes fun i => cOf x (n + i)) 32 = W
  generalize reg (~~~ 0#32) (cOf x) n = r
  constructor
  · rintro rfl
    rw [show r ^^^ ~~~r = BitVec.allOnes 32 from by rw [← BitVec.allOnes_xor, ← BitVec.xor_assoc, BitVec.xor_comm r, BitVec.xor_assoc, BitVec.xor_self, BitVec.xor_zero]]
  · intro hh
    have := stpN_inj 32 hh
    have h2 : r ^^^ (r ^^^ W) = r ^^^ BitVec.allOnes 32 := by rw [this]
    rw [← BitVec.xor_assoc, BitVec.xor_self, BitVec.zero_xor, BitVec.xor_allOnes] at h2
    exact h2

theorem openE_iff (x : List (BitVec 8)) (n : Nat) (h : x.length = n + 4) : openE x = 0 ↔ sealed (x.take n) = x := by
  unfold openE
  rw [show x.length - 4 = n by omega]
  split
  · rename_i hh; exact ⟨fun _ => hh.2, fun _ => rfl⟩
  · rename_i hh; exact ⟨fun h => absurd h (by decide), fun hs => absurd ⟨by omega, hs⟩ hh⟩
theorem openE_or (x : List (BitVec 8)) : openE x = 0 ∨ openE x = 40 := by unfold openE; split <;> simp


theorem seal_len (bs : List (BitVec 8)) : (sealed bs).length = bs.length + 4 := by simp [sealed, sumB]

theorem tw_reg (bs : List (BitVec 8)) (p : Nat) (flip : Nat → Bool) (hf : ∀ i, flip i = true → p + i < 8 * (bs.length + 4)) (n : Nat) (hn : n ≤ bs.length + 4) : reg (~~~ 0#32) (cOf (tw p flip (sealed bs) 32)) n = reg (~~~ 0#32) (cOf (sealed bs)) n ^^^ regb 0#32 (dif p flip 32) (8 * n) := by
  rw [reg_bits, reg_bits, ← regb_xor]
  rw [BitVec.xor_zero]
  apply regb_congr
  intro k hk
  exact tw_bits p flip (sealed bs) (by rw [seal_len bs]; exact hf) 32 k (by rw [seal_len bs]; omega)

theorem dif_zero (p : Nat) (flip : Nat → Bool) (n : Nat) : regb 0#32 (dif p flip 32) (8 * n) = 0#32 ↔ ∀ k, k < 8 * n → dif p flip 32 k = false :=
  burst _ p _ (fun k hk => by simp [dif, show ¬ p ≤ k by omega]) (fun k hk _ => by simp [dif, show ¬ k - p < 32 by omega])

theorem xor_self_iff {x y : BitVec 32} : x ^^^ y = x ↔ y = 0#32 := by
  constructor
  · intro h
    have h2 : x ^^^ (x ^^^ y) = x ^^^ x := by rw [h]
    rwa [← BitVec.xor_assoc, BitVec.xor_self, BitVec.zero_xor] at h2
  · rintro rfl; simp

theorem burst_sum (bs : List (BitVec 8)) (p : Nat) (flip : Nat → Bool) (hf : ∀ i, flip i = true → p + i < 8 * (bs.length + 4)) : (sumOf ((tw p flip (sealed bs) 32).take bs.length) = sumOf bs) ↔ insideB bs.length p flip 32 = false := by
  have hl := tw_length p flip (sealed bs) 32
  rw [seal_len bs] at hl
  rw [sumOf_take _ _ (by omega), tw_reg bs p flip hf _ (by omega)]
  have hb : sumOf bs = ~~~ reg (~~~ 0#32) (cOf (sealed bs)) bs.length := by
    have := sumOf_take (sealed bs) bs.length (by rw [seal_len bs]; omega)
    rwa [show (sealed bs).take bs.length = bs from by simp [sealed]] at this
  rw [hb]
  have e : ∀ a b : BitVec 32, (~~~ a = ~~~ b) ↔ a = b := fun a b => by
    constructor
    · intro h; have := congrArg (~~~ ·) h; simpa using this
    · rintro rfl; rfl
  rw [e, xor_self_iff, dif_zero p flip]
  unfold insideB
  rw [List.any_eq_false]
  constructor
  · intro h j hj
    rw [List.mem_range] at hj
    intro hh
    rw [Bool.and_eq_true, decide_eq_true_iff] at hh
    have := h (p + j) hh.2
    simp [dif, hj, hh.1] at this
  · intro h k hk
    by_cases h1 : p ≤ k
    · by_cases h2 : k - p < 32
      · have := h (k - p) (List.mem_range.2 h2)
        rw [Bool.and_eq_true, decide_eq_true_iff] at this
        cases hfk : flip (k - p)
        · simp [dif, hfk]
        · exact absurd ⟨hfk, by omega⟩ this
      · simp [dif, h2]
    · simp [dif, h1]

theorem burst_open (bs : List (BitVec 8)) (p : Nat) (flip : Nat → Bool) (hf : ∀ i, flip i = true → p + i < 8 * (bs.length + 4)) : openE (tw p flip (sealed bs) 32) = 0 ↔ turnedB flip 32 = false := by
  have hl := tw_length p flip (sealed bs) 32
  rw [seal_len bs] at hl
  rw [openE_iff _ _ hl, sealed_iff _ _ hl, tw_reg bs p flip hf _ (by omega)]
  have hs : reg (~~~ 0#32) (cOf (sealed bs)) (bs.length + 4) = stpN 32 (BitVec.allOnes 32) :=
    (sealed_iff (sealed bs) bs.length (seal_len bs)).1 (by rw [show (sealed bs).take bs.length = bs from by simp [sealed]])
  rw [← hs, xor_self_iff, dif_zero p flip]
  unfold turnedB
  rw [List.any_eq_false]
  constructor
  · intro h j hj hh
    rw [List.mem_range] at hj
    have := h (p + j) (hf j hh)
    simp [dif, hj, hh] at this
  · intro h k hk
    by_cases h1 : p ≤ k
    · by_cases h2 : k - p < 32
      · have := h (k - p) (List.mem_range.2 h2)
        simp [dif, this]
      · simp [dif, h2]
    · simp [dif, h1]

end Go.Proofs.Ytnnopakfnenjfaa
