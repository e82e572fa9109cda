/- Unsigned numbers as bit vectors: 'U x' is the number, and what the operations on numbers are on vectors. Nothing here names the program. -/
import Derived.Test.YtilpkfgdlehmpaaDoorFrame
namespace Go.Proofs.YtilpkfgdlehmpaaDoor.Crc
open Go.RowKit
set_option linter.unusedVariables false

def U {n : Nat} (x : BitVec n) : Int := x.toNat

theorem U_nn {n : Nat} (x : BitVec n) : 0 ≤ U x := by unfold U; omega
theorem U_lt8 (x : BitVec 8) : U x ≤ 255 := by unfold U; omega
theorem U_lt16 (x : BitVec 16) : U x ≤ 65535 := by unfold U; omega
theorem U_lt32 (x : BitVec 32) : U x ≤ 4294967295 := by unfold U; omega
theorem U_inj {n : Nat} {x y : BitVec n} (h : U x = U y) : x = y := BitVec.eq_of_toNat_eq (by unfold U at h; omega)
theorem U_beq {n : Nat} (x y : BitVec n) : (U x == U y) = (x == y) := by
  rw [Bool.eq_iff_iff, beq_iff_eq, beq_iff_eq]
  exact ⟨U_inj, fun h => by rw [h]⟩

theorem ofInt_U {n : Nat} (x : BitVec n) : BitVec.ofInt n (U x) = x := by
  unfold U; rw [BitVec.ofInt_natCast, BitVec.ofNat_toNat, BitVec.setWidth_eq]

theorem wrap32_nat (x : BitVec 32) : IntKind.u32.wrap (x.toNat : Int) = (x.toNat : Int) := by
  rw [IntKind.wrap_u32]; omega
theorem wrap8_nat (x : BitVec 8) : IntKind.u8.wrap (x.toNat : Int) = (x.toNat : Int) := by
  rw [IntKind.wrap_u8]; omega

theorem xor32 (x y : BitVec 32) : bits .xor .u32 (U x) (U y) = U (x ^^^ y) := by
  show IntKind.u32.wrap ((BitVec.ofInt 32 (U x) ^^^ BitVec.ofInt 32 (U y)).toNat : Int) = _
  rw [ofInt_U, ofInt_U, wrap32_nat]; rfl
theorem and32 (x y : BitVec 32) : bits .and .u32 (U x) (U y) = U (x &&& y) := by
  show IntKind.u32.wrap ((BitVec.ofInt 32 (U x) &&& BitVec.ofInt 32 (U y)).toNat : Int) = _
  rw [ofInt_U, ofInt_U, wrap32_nat]; rfl
theorem or32 (x y : BitVec 32) : bits .or .u32 (U x) (U y) = U (x ||| y) := by
  show IntKind.u32.wrap ((BitVec.ofInt 32 (U x) ||| BitVec.ofInt 32 (U y)).toNat : Int) = _
  rw [ofInt_U, ofInt_U, wrap32_nat]; rfl
theorem xor8 (x y : BitVec 8) : bits .xor .u8 (U x) (U y) = U (x ^^^ y) := by
  show IntKind.u8.wrap ((BitVec.ofInt 8 (U x) ^^^ BitVec.ofInt 8 (U y)).toNat : Int) = _
  rw [ofInt_U, ofInt_U, wrap8_nat]; rfl
theorem and8 (x y : BitVec 8) : bits .and .u8 (U x) (U y) = U (x &&& y) := by
  show IntKind.u8.wrap ((BitVec.ofInt 8 (U x) &&& BitVec.ofInt 8 (U y)).toNat : Int) = _
  rw [ofInt_U, ofInt_U, wrap8_nat]; rfl
theorem or8 (x y : BitVec 8) : bits .or .u8 (U x) (U y) = U (x ||| y) := by
  show IntKind.u8.wrap ((BitVec.ofInt 8 (U x) ||| BitVec.ofInt 8 (U y)).toNat : Int) = _
  rw [ofInt_U, ofInt_U, wrap8_nat]; rfl

/-- A number is its vector's. -/
theorem U_of (n : Nat) (z : Int) (h0 : 0 ≤ z) (h1 : z < 2 ^ n) : U (BitVec.ofInt n z) = z := by
  unfold U
  rw [BitVec.toNat_ofInt]
  have : z % ((2 ^ n : Nat) : Int) = z := Int.emod_eq_of_lt h0 (by push_cast; exact h1)
  rw [this]; omega

theorem not32 (x : BitVec 32) : bits .xor .u32 IntKind.u32.max (U x) = U (~~~x) := by
  rw [show IntKind.u32.max = U (BitVec.allOnes 32) from by decide +kernel, xor32, BitVec.allOnes_xor]

theorem half32 (x : BitVec 32) : U x / (2 : Int) = U (x >>> 1) := by
  unfold U; simp [BitVec.toNat_ushiftRight, Nat.shiftRight_eq_div_pow]
theorem half8 (x : BitVec 8) : U x / (2 : Int) = U (x >>> 1) := by
  unfold U; simp [BitVec.toNat_ushiftRight, Nat.shiftRight_eq_div_pow]

theorem neg32 (x : BitVec 32) : -U x % 4294967296 = U (-x) := by
  unfold U
  rw [BitVec.toNat_neg]
  have := x.isLt
  omega

theorem lit32 (z : Int) (h0 : 0 ≤ z) (h1 : z ≤ 4294967295) : z = U (BitVec.ofInt 32 z) := (U_of 32 z h0 (by omega)).symm

theorem wide8 (c : BitVec 8) : U c = U (c.setWidth 32) := by
  unfold U; rw [BitVec.toNat_setWidth]; have := c.isLt; omega

theorem xor32_8 (x : BitVec 32) (c : BitVec 8) : bits .xor .u32 (U x) (U c) = U (x ^^^ c.setWidth 32) := by rw [wide8, xor32]


theorem wf_u8 {z : Int} (h : (Lit.int .u8 z).wf = true) : 0 ≤ z ∧ z ≤ 255 := by
  simp [Lit.wf, IntKind.min, IntKind.max, IntKind.signed, IntKind.bits] at h
  omega

/-- The bytes of a slice that came in. -/
theorem IsRow.bytes {w : World} {a : Option Addr} {len cap : Nat} {zs : List Int} (h : IsRow .u8 w a len cap zs) : ∃ c : Nat → BitVec 8, Rd w a len (fun i => .int .u8 (U (c i))) := by
  refine ⟨fun i => BitVec.ofInt 8 (zs.getD i 0), h.rd.congr fun i hi => ?_⟩
  obtain ⟨h1, h2, h3, h4⟩ := h.len
  have hz : zs.length = cap := by rcases h3 with h3 | h3 <;> omega
  have hm : zs.getD i 0 ∈ zs := by
    rw [List.getD_eq_getElem?_getD, List.getElem?_eq_getElem (by omega)]
    exact List.getElem_mem (by omega)
  have := wf_u8 (h4 _ hm)
  rw [U_of 8 _ (by omega) (by omega)]

end Go.Proofs.YtilpkfgdlehmpaaDoor.Crc
