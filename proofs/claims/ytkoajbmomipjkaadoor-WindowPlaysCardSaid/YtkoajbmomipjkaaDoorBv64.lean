/- Numbers of 64 bits as bit vectors; TrailingZeros64. -/
import Derived.Test.YtkoajbmomipjkaaDoorWin
import Derived.WalkSpells
namespace Go.Proofs.YtkoajbmomipjkaaDoor
open Go.RowKit
set_option linter.unusedVariables false

theorem U_lt64 (x : BitVec 64) : U x ≤ 18446744073709551615 := by unfold U; omega
theorem wrap64_nat (x : BitVec 64) : IntKind.u64.wrap (x.toNat : Int) = (x.toNat : Int) := by
  rw [IntKind.wrap_u64]; omega
theorem xor64 (x y : BitVec 64) : bits .xor .u64 (U x) (U y) = U (x ^^^ y) := by
  show IntKind.u64.wrap ((BitVec.ofInt 64 (U x) ^^^ BitVec.ofInt 64 (U y)).toNat : Int) = _
  rw [ofInt_U, ofInt_U, wrap64_nat]; rfl
theorem and64 (x y : BitVec 64) : bits .and .u64 (U x) (U y) = U (x &&& y) := by
  show IntKind.u64.wrap ((BitVec.ofInt 64 (U x) &&& BitVec.ofInt 64 (U y)).toNat : Int) = _
  rw [ofInt_U, ofInt_U, wrap64_nat]; rfl
theorem or64 (x y : BitVec 64) : bits .or .u64 (U x) (U y) = U (x ||| y) := by
  show IntKind.u64.wrap ((BitVec.ofInt 64 (U x) ||| BitVec.ofInt 64 (U y)).toNat : Int) = _
  rw [ofInt_U, ofInt_U, wrap64_nat]; rfl
theorem not64 (x : BitVec 64) : bits .xor .u64 IntKind.u64.max (U x) = U (~~~x) := by
  rw [show IntKind.u64.max = U (BitVec.allOnes 64) from by decide +kernel, xor64, BitVec.allOnes_xor]
theorem neg64 (x : BitVec 64) : -U x % 18446744073709551616 = U (-x) := by
  unfold U; rw [BitVec.toNat_neg]; have := x.isLt; omega
theorem shr64 (x : BitVec 64) (k : Nat) : U x / 2 ^ k = U (x >>> k) := by
  unfold U; simp [BitVec.toNat_ushiftRight, Nat.shiftRight_eq_div_pow]

theorem half64 (x : BitVec 64) : U x / (2 : Int) = U (x >>> 1) := by
  unfold U; simp [BitVec.toNat_ushiftRight, Nat.shiftRight_eq_div_pow]

theorem pow64 {k : Nat} (h : k < 64) : IntKind.u64.wrap ((2 : Int) ^ k) = U (1#64 <<< k) := by
  have h1 : 2 ^ k < 2 ^ 64 := Nat.pow_lt_pow_right (by decide) h
  rw [IntKind.wrap_u64]
  unfold U
  rw [BitVec.toNat_shiftLeft]
  have h2 : (1#64).toNat <<< k = 2 ^ k := by simp [Nat.shiftLeft_eq]
  rw [h2, Nat.mod_eq_of_lt h1]
  have h3 : ((2 : Int) ^ k) = ((2 ^ k : Nat) : Int) := by push_cast; rfl
  rw [h3]
  generalize 2 ^ k = z at *
  omega

/-- The table lies. -/
def Tab (w : World) : Prop := ∀ i, i < 64 → w.cell? ⟨0, i, none⟩ = some (.int .u8 (tz64.getD i 0))
theorem Tab.kept {S : Nat → Prop} {w w' : World} (h : Tab w) (hk : Kp S w w') (hs : ¬ S 0) : Tab w' := fun i hi => hk.cell (h i hi) hs
theorem Tab.no {w w' : World} (h : Tab w) (hk : Kp no w w') : Tab w' := h.kept hk fun h => h

theorem tz_c (x : BitVec 64) (i : Nat) (hi : IsLow x i) (w : World) (ht : Tab w) : Calls Tryd.prog 38 #[.int .u64 (U x)] w fun e w' => e = .returned (.int .i64 i) ∧ w = w' := by
  have h1 := U_nn x
  have h2 := U_lt64 x
  have hne : (U x == 0) = false := by
    rw [show (0 : Int) = U (0#64) from rfl, U_beq]
    simp only [beq_eq_false_iff_ne, ne_eq]
    rintro rfl
    have := hi.2.1; simp at this
  obtain ⟨t1, t2, t3⟩ := tz_all ⟨i, hi.1⟩
  simp only at t1 t2 t3
  have hcell := ht (tzAt i) t2
  rw [t3] at hcell
  have hi64 := hi.1
  obtain ⟨N, hN⟩ : ∃ N, IntKind.u64.wrap (-U x) = N := ⟨_, rfl⟩
  have hA : bits .and .u64 (U x) N = U (1#64 <<< i) := by rw [← hN, IntKind.wrap_u64, neg64, and64, hi.and_neg]
  obtain ⟨A, hA'⟩ : ∃ A, U (1#64 <<< i) = A := ⟨_, rfl⟩
  obtain ⟨M, hM⟩ : ∃ M, IntKind.u64.wrap (A * 285870213051353865) = M := ⟨_, rfl⟩
  have hD : M / 288230376151711744 = (tzAt i : Int) := by rw [← hM, ← hA', IntKind.wrap_u64]; exact t1
  rw [hA'] at hA
  obtain ⟨k, hk⟩ : ∃ k, tzAt i = k := ⟨_, rfl⟩
  rw [hk] at hD hcell t2
  clear t1 t3 ht hi hk hA'
  go_enter Tryd.func38, Tryd.ntmps38
  go_wp2_with fail
  go_ret
  exact ⟨rfl, rfl⟩
end Go.Proofs.YtkoajbmomipjkaaDoor
