/- OnesCount64; many. -/
import Derived.Test.YtkoajbmomipjkaaDoorOnes
import Derived.Test.YtkoajbmomipjkaaDoorHasW
namespace Go.Proofs.YtkoajbmomipjkaaDoor
open Go.RowKit
set_option linter.unusedVariables false

theorem and_nat {a b : Nat} (ha : a < 2 ^ 64) (hb : b < 2 ^ 64) : bits .and .u64 (a : Int) (b : Int) = ((a &&& b : Nat) : Int) := by
  have h := and64 (BitVec.ofNat 64 a) (BitVec.ofNat 64 b)
  unfold U at h
  rw [BitVec.toNat_and, BitVec.toNat_ofNat, BitVec.toNat_ofNat, Nat.mod_eq_of_lt ha, Nat.mod_eq_of_lt hb] at h
  exact h
theorem and_i64 {a : Nat} (ha : a < 2 ^ 62) : bits .and .i64 (a : Int) (127 : Int) = ((a % 128 : Nat) : Int) := by
  show IntKind.i64.wrap ((BitVec.ofInt 64 (a : Int) &&& BitVec.ofInt 64 127).toNat : Int) = _
  have h1 : (BitVec.ofInt 64 (a : Int) &&& BitVec.ofInt 64 127).toNat = a % 128 := by
    rw [BitVec.toNat_and]
    have : (BitVec.ofInt 64 (a : Int)).toNat = a := by
      rw [BitVec.toNat_ofInt]; omega
    rw [this, show (BitVec.ofInt 64 127).toNat = 2 ^ 7 - 1 from by decide +kernel, Nat.and_two_pow_sub_one_eq_mod]
  rw [h1, IntKind.wrap_i64]
  omega

set_option maxHeartbeats 2000000 in
theorem ones_c (x : BitVec 64) (w : World) : Calls Tryd.prog 41 #[.int .u64 (U x)] w fun e w' => e = .returned (.int .i64 (cntN x.toNat)) ∧ w = w' := by
  obtain ⟨n, hn⟩ : ∃ n, x.toNat = n := ⟨_, rfl⟩
  have hn64 : n < 2 ^ 64 := by have := x.isLt; omega
  have hu : U x = (n : Int) := by unfold U; rw [hn]
  rw [hu, hn]
  clear hu hn
  obtain ⟨A1, B1, y1, A2, B2, y2, y3, y4, y5, y6, hA1, hB1, hy1, hA2, hB2, hy2, hy3, hy4, hy5, hy6, l1, l2, l3, l4, r, l6⟩ := ones_vals n hn64
  have a1 := and_nat (a := n / 2) (b := 6148914691236517205) (by clear hA1 hB1 hA2 hB2 hy3; omega) (by decide)
  have a2 := and_nat (a := n) (b := 6148914691236517205) hn64 (by decide)
  have a3 := and_nat (a := y1 / 4) (b := 3689348814741910323) (by clear hA1 hB1 hA2 hB2 hy3; omega) (by decide)
  have a4 := and_nat (a := y1) (b := 3689348814741910323) l1 (by decide)
  have a5 := and_nat (a := y2 / 16 + y2) (b := 1085102592571150095) l3 (by decide)
  rw [hA1] at a1
  rw [hB1] at a2
  rw [hA2] at a3
  rw [hB2] at a4
  rw [hy3] at a5
  clear hA1 hB1 hA2 hB2 hy3
  have a6 := and_i64 l6
  rw [r] at a6
  generalize cntN n = c at *
  have u1 : IntKind.u64.wrap ((A1 : Int) + B1) = y1 := by rw [IntKind.wrap_u64]; omega
  have u2 : IntKind.u64.wrap ((A2 : Int) + B2) = y2 := by rw [IntKind.wrap_u64]; omega
  have u3 : IntKind.u64.wrap ((y2 : Int) / 16 + y2) = ((y2 / 16 + y2 : Nat) : Int) := by rw [IntKind.wrap_u64]; omega
  have u4 : IntKind.u64.wrap ((y3 : Int) + (y3 : Int) / 256) = y4 := by rw [IntKind.wrap_u64]; omega
  have u5 : IntKind.u64.wrap ((y4 : Int) + (y4 : Int) / 65536) = y5 := by rw [IntKind.wrap_u64]; omega
  have u6 : IntKind.u64.wrap ((y5 : Int) + (y5 : Int) / 4294967296) = y6 := by rw [IntKind.wrap_u64]; omega
  have u7 : IntKind.i64.wrap (y6 : Int) = y6 := by rw [IntKind.wrap_i64]; omega
  simp only [Int.natCast_ediv, Int.natCast_add, Int.cast_ofNat_Int] at a1 a2 a3 a4 a5 u3
  clear l1 l2 l3 l4 r l6 hy1 hy2 hy4 hy5 hy6 hn64
  go_enter Tryd.func41, Tryd.ntmps41
  go_wp2_with fail
  go_ret
  exact ⟨rfl, rfl⟩

/-- How many numbers a state has met. -/
def manyV (N : Nat) (x : BitVec 64) : Int := wrap64 (wrap64 N + cntN x.toNat)

set_option maxHeartbeats 2000000 in
theorem many_c (N : Nat) (x : BitVec 64) (w : World) :
    Calls Tryd.prog 28 #[.agg #[.int .u64 N, .int .u64 (U x)]] w fun e w' => e = .returned (.int .i64 (manyV N x)) ∧ Kp no w w' := by
  have hl := Lib.hid (fun V : World => ones_c x V)
  have H := (SL.start w).alloc [.int .u64 N, .int .u64 (U x)] 58
  have hH := Lib.hid H
  unfold manyV
  generalize (cntN x.toNat : Int) = k at *
  clear H
  go_enter Tryd.func28, Tryd.ntmps28
  go_wp2_with fail
  generalize w.alloc (.cells #[Value.int .u64 N, .int .u64 (U x)] 58) = w2 at *
  have c0 := hH.out.cell (o := 0) (.here _ _) rfl
  have c1 := hH.out.cell (o := 1) (.here _ _) rfl
  generalize w.heap.size = b at *
  go_quiet ((go_at_call 41; exact quiet_eq (hl.out _)))
  go_wp2_with fail
  go_ret
  exact ⟨rfl, (hH.out.drewN nq).kp (.there (.here _ _))⟩
end Go.Proofs.YtkoajbmomipjkaaDoor
