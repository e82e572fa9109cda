/- Sealed bytes of which bits are turned: what Decode makes of them (plain law). -/
import Derived.Test.YtilpkfgdlehmpaaDoorGmW
import Derived.Test.YtilpkfgdlehmpaaDoorCTwist
namespace Go.Proofs.YtilpkfgdlehmpaaDoor
set_option linter.unusedVariables false

theorem mask_bit (mk : BitVec 32) (i : Nat) : ((Crc.U mk / 2 ^ i).tmod 2 == 1) = mk.getLsbD i := by
  have h : Crc.U mk / (2 ^ i : Int) = ((mk.toNat / 2 ^ i : Nat) : Int) := by unfold Crc.U; push_cast; rfl
  rw [Int.tmod_eq_emod_of_nonneg (Int.ediv_nonneg (Crc.U_nn mk) (Int.pow_nonneg (by omega))), h, BitVec.getLsbD, Nat.testBit_eq_decide_div_mod_eq]
  by_cases hb : mk.toNat / 2 ^ i % 2 = 1
  · have : ((mk.toNat / 2 ^ i : Nat) : Int) % 2 = 1 := by omega
    rw [this, hb]; rfl
  · have : ((mk.toNat / 2 ^ i : Nat) : Int) % 2 = 0 := by omega
    rw [this]; simp [hb]
theorem flip8 (x : BitVec 8) (r : Nat) : bits .xor .u8 (Crc.U x) (2 ^ r % 256) = Crc.U (x ^^^ 1#8 <<< r) := by
  have : (2 : Int) ^ r % 256 = Crc.U (1#8 <<< r) := by
    have h : ((1#8) <<< r).toNat = 2 ^ r % 256 := by
      rw [BitVec.toNat_shiftLeft, Nat.shiftLeft_eq]; simp
    unfold Crc.U; rw [h, Int.natCast_emod, Int.natCast_pow]; rfl
  rw [this, Crc.xor8]
def flipsK (n p : Nat) (mk : BitVec 32) (j : Nat) : Bool := decide (p + j < 8 * (n + 4)) && mk.getLsbD j
def twI (B : List Int) (p : Nat) (mk : BitVec 32) (k : Nat) : List Int := (Crc.tw p (flipsK B.length p mk) (Crc.sealed (toB B)) k).map Crc.U
theorem tw_len (B : List Int) (p : Nat) (mk : BitVec 32) (k : Nat) : (Crc.tw p (flipsK B.length p mk) (Crc.sealed (toB B)) k).length = B.length + 4 := by
  rw [Crc.tw_length, Crc.seal_len, toB_length]
theorem twI_len (B : List Int) (p : Nat) (mk : BitVec 32) (k : Nat) : (twI B p mk k).length = B.length + 4 := by
  unfold twI; rw [List.length_map, tw_len]
theorem twI_bytes (B : List Int) (p : Nat) (mk : BitVec 32) (k : Nat) : ∀ x ∈ twI B p mk k, byteK x := by
  intro x hx
  obtain ⟨y, -, rfl⟩ := List.mem_map.1 hx
  exact U_byte y
theorem twI_zero (B : List Int) (p : Nat) (mk : BitVec 32) : twI B p mk 0 = sealI B := rfl
theorem twI_skip {B : List Int} {p : Nat} {mk : BitVec 32} {k : Nat} (h : flipsK B.length p mk k = false) : twI B p mk (k + 1) = twI B p mk k := by
  unfold twI
  rw [Crc.tw, if_neg (by rw [h]; decide)]
/-- The byte that is turned, and what it becomes. -/
theorem twI_set {B : List Int} {p : Nat} {mk : BitVec 32} {k : Nat} (h : flipsK B.length p mk k = true) (hk : p + k < 8 * (B.length + 4)) :
    ∃ z : Int, (bv (twI B p mk k)).getD ((p + k) / 8) undef = .int .u8 z ∧ (bv (twI B p mk k)).set ((p + k) / 8) (.int .u8 (bits .xor .u8 z (2 ^ ((p + k) % 8) % 256))) = bv (twI B p mk (k + 1)) := by
  have hl := tw_len B p mk k
  refine ⟨Crc.U ((Crc.tw p (flipsK B.length p mk) (Crc.sealed (toB B)) k).getD ((p + k) / 8) 0), ?_, ?_⟩
  · unfold bv twI
    rw [List.getD_eq_getElem?_getD, List.getElem?_map, List.getElem?_map, List.getElem?_eq_getElem (by omega), List.getD_eq_getElem?_getD, List.getElem?_eq_getElem (by omega)]
    rfl
  · rw [flip8]
    unfold bv twI
    rw [Crc.tw, if_pos h, List.map_set, List.map_set]
theorem tw_stay {s : List (BitVec 8)} {p : Nat} {f : Nat → Bool} {k : Nat} (h : ∀ j, k ≤ j → f j = false) : ∀ i, k ≤ i → Crc.tw p f s i = Crc.tw p f s k
  | 0, hi => by obtain rfl : k = 0 := by omega
                rfl
  | i + 1, hi => by
    by_cases hk : k = i + 1
    · rw [hk]
    · rw [Crc.tw, if_neg (by rw [h i (by omega)]; decide), tw_stay h i (by omega)]
theorem twI_stay {B : List Int} {p : Nat} {mk : BitVec 32} {k : Nat} (hk : k ≤ 32) (h : 8 * (B.length + 4) ≤ p + k) : twI B p mk k = twI B p mk 32 := by
  unfold twI
  rw [tw_stay (k := k) (i := 32) (fun j hj => by unfold flipsK; rw [decide_eq_false (by omega)]; rfl) hk]
theorem twI_open (B : List Int) (p : Nat) (mk : BitVec 32) : twI B p mk 32 = sealI B ∨ (decR (twI B p mk 32) = (Gm0, 40) ∧ twI B p mk 32 ≠ sealI B) := by
  have hf : ∀ i, flipsK B.length p mk i = true → p + i < 8 * ((toB B).length + 4) := fun i hi => by
    rw [toB_length]; simp only [flipsK, Bool.and_eq_true, decide_eq_true_iff] at hi; exact hi.1
  have ho := Crc.burst_open (toB B) p (flipsK B.length p mk) hf
  cases ht : Crc.turnedB (flipsK B.length p mk) 32 with
  | false =>
    refine .inl ?_
    unfold twI sealI
    rw [Crc.tw_none p _ _ 32 ht]
  | true =>
    have h1 : ¬ openZ (twI B p mk 32) = 0 := fun h => by
      unfold openZ twI at h
      rw [toB_of_U] at h
      rw [ho.1 h] at ht
      cases ht
    refine .inr ⟨decR_no h1, fun e => h1 ?_⟩
    rw [e]
    unfold openZ sealI
    rw [toB_of_U]
    unfold Crc.openE
    rw [sealed_take', if_pos ⟨by rw [Crc.seal_len]; omega, rfl⟩]
end Go.Proofs.YtilpkfgdlehmpaaDoor
