/- Numbers as bytes: the bits. -/
import Derived.Test.YtilpkfgdlehmpaaDoorVn
import Derived.Test.YtilpkfgdlehmpaaDoorRows
import Derived.IntWalk
namespace Go.Proofs.YtilpkfgdlehmpaaDoor
open Go.RowKit

theorem or_low {n m : Int} {k : Nat} (h0 : 0 ≤ n) (hn : n < 2 ^ k) (hm : 0 ≤ m) (hb : n + m * 2 ^ k < 18446744073709551616) : bits .or .u64 n (m * 2 ^ k) = n + m * 2 ^ k := by
  obtain ⟨a, rfl⟩ := Int.eq_ofNat_of_zero_le h0
  obtain ⟨b, rfl⟩ := Int.eq_ofNat_of_zero_le hm
  have e1 : ((b : Int) * 2 ^ k) = ((b * 2 ^ k : Nat) : Int) := by push_cast; rfl
  have e2 : ((a : Int) + b * 2 ^ k) = ((a + b * 2 ^ k : Nat) : Int) := by push_cast; rfl
  have ha : a < 2 ^ k := by
    have : ((a : Nat) : Int) < ((2 ^ k : Nat) : Int) := by push_cast; exact hn
    omega
  rw [e2, e1]
  rw [e2] at hb
  have hs : a + b * 2 ^ k < 18446744073709551616 := by omega
  show IntKind.u64.wrap (((BitVec.ofInt 64 (a : Nat) ||| BitVec.ofInt 64 ((b * 2 ^ k : Nat) : Int)).toNat : Nat) : Int) = _
  rw [BitVec.ofInt_natCast, BitVec.ofInt_natCast, BitVec.toNat_or, BitVec.toNat_ofNat, BitVec.toNat_ofNat, Nat.mod_eq_of_lt (by omega), Nat.mod_eq_of_lt (by omega)]
  have h3 : a ||| b * 2 ^ k = a + b * 2 ^ k := by
    have := Nat.shiftLeft_add_eq_or_of_lt ha b
    rw [Nat.shiftLeft_eq] at this
    rw [Nat.or_comm, ← this, Nat.add_comm]
  rw [h3]
  generalize a + b * 2 ^ k = z at *
  unfold IntKind.wrap
  simp [IntKind.bits, IntKind.signed]
  omega
theorem and127 {c : Int} (h : byteK c) : bits .and .u8 c 127 = c % 128 := by
  obtain ⟨h0, h1⟩ := h
  obtain ⟨a, rfl⟩ := Int.eq_ofNat_of_zero_le h0
  have ha : a < 256 := by omega
  have key : ∀ a : Fin 256, bits .and .u8 ((a.1 : Nat) : Int) 127 = (a.1 : Int) % 128 := by decide +kernel
  exact key ⟨a, ha⟩
end Go.Proofs.YtilpkfgdlehmpaaDoor
