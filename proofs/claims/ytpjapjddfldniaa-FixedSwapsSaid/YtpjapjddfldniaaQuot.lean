/- The walks of fixed.size, fixed.quotient, fixed.Mul, fixed.Div, over all numbers. -/
import Derived.Test.YtpjapjddfldniaaBitFns
import Derived.Test.YtpjapjddfldniaaDiv64
import Derived.Test.YtpjapjddfldniaaProdLaw
namespace Go.Proofs.Ytpjapjddfldniaa
open Go.RowKit

theorem ret_ub {k : IntKind} {a b : Int} {c d : Bool} (h : a = b) (h' : c = d) : Ending.returned (.tuple #[.int k a, .bool c]) = Ending.returned (.tuple #[.int k b, .bool d]) := by rw [h, h']

theorem size_c (n : Int) (w : World) (h0 : -9223372036854775808 ≤ n) (h1 : n ≤ 9223372036854775807) :
    Calls Try.prog 26 #[.int .i64 n] w fun e w' => e = .returned (.tuple #[.int .u64 (n.natAbs : Int), .bool (decide (n < 0))]) ∧ w = w' := by
  by_cases h : n < 0
  · go_enter Try.func26, Try.ntmps26
    go_wp2
    go_ret2
    exact ⟨ret_ub (by simp only [IntKind.wrap_u64]; omega) (by simp [h]), rfl⟩
  · go_enter Try.func26, Try.ntmps26
    go_wp2
    go_ret2
    exact ⟨ret_ub (by omega) (by simp [h]), rfl⟩

def q2 (neg : Bool) (q r : Int) : Int := if neg = true ∧ 0 < r ∧ q ≤ 4611686018427387904 then q + 1 else q
def qV (neg : Bool) (q r : Int) : Int := if 4611686018427387904 < q2 neg q r then 0 else if neg = true then -(q2 neg q r) else q2 neg q r
def qE (neg : Bool) (q r : Int) : Int := if 4611686018427387904 < q2 neg q r then 10 else 0

theorem quot_core (high low y q r : Nat) (neg : Bool) (w : World) (hlt : (high : Int) < y) (bq : (q : Int) ≤ 18446744073709551615)
    (hD : ∀ w, Calls Try.prog 29 #[.int .u64 (high : Int), .int .u64 (low : Int), .int .u64 (y : Int)] w fun e w' =>
      e = .returned (.tuple #[.int .u64 (q : Int), .int .u64 (r : Int)]) ∧ ∃ n, w' = w.drewN n) :
    Calls Try.prog 28 #[.int .u64 (high : Int), .int .u64 (low : Int), .int .u64 (y : Int), .bool neg] w fun e w' =>
      e = .returned (.tuple #[.int .i64 (qV neg q r), .int .i64 (qE neg q r)]) ∧ Kp no w w' := by
  have hD' := Lib.hid hD
  clear hD
  cases neg
  · by_cases hg : (4611686018427387904 : Int) < q
    · have hgb : decide ((4611686018427387904 : Int) < (q : Int)) = true := by simp; omega
      have HV := Lib.hid (show qV false q r = 0 by unfold qV q2; simp; try omega)
      have HE := Lib.hid (show qE false q r = 10 by unfold qE q2; simp; try omega)
      skip
      go_enter Try.func28, Try.ntmps28
      go_wp2_with fail
      refine (hD'.out _).mono ?_
      rintro e w' ⟨rfl, nd, rfl⟩
      go_wp2_with fail
      go_ret2
      exact ⟨ret_ii HV.out.symm HE.out.symm, (Kp.refl _ _).drewN nd⟩
    · have hgb : decide ((4611686018427387904 : Int) < (q : Int)) = false := by simp; omega
      have hq2 : (q : Int) ≤ 4611686018427387904 := by omega
      have HV := Lib.hid (show qV false q r = (q : Int) by unfold qV q2; simp; try omega)
      have HE := Lib.hid (show qE false q r = 0 by unfold qE q2; simp; try omega)
      skip
      go_enter Try.func28, Try.ntmps28
      go_wp2_with fail
      refine (hD'.out _).mono ?_
      rintro e w' ⟨rfl, nd, rfl⟩
      go_wp2_with fail
      go_ret2
      exact ⟨ret_ii HV.out.symm HE.out.symm, (Kp.refl _ _).drewN nd⟩
  · by_cases hr : (0 : Int) < r
    · have hrb : decide ((0 : Int) < (r : Int)) = true := by simp; omega
      by_cases hg : (4611686018427387904 : Int) < q
      · have hgb : decide ((4611686018427387904 : Int) < (q : Int)) = true := by simp; omega
        have hlb : decide ((q : Int) ≤ 4611686018427387904) = false := by simp; omega
        have HV := Lib.hid (show qV true q r = 0 by unfold qV q2; simp; try omega)
        have HE := Lib.hid (show qE true q r = 10 by unfold qE q2; simp; try omega)
        skip
        go_enter Try.func28, Try.ntmps28
        go_wp2_with fail
        refine (hD'.out _).mono ?_
        rintro e w' ⟨rfl, nd, rfl⟩
        go_wp2_with fail
        go_ret2
        exact ⟨ret_ii HV.out.symm HE.out.symm, (Kp.refl _ _).drewN nd⟩
      · have hlb : decide ((q : Int) ≤ 4611686018427387904) = true := by simp; omega
        have hq2 : (q : Int) ≤ 4611686018427387904 := by omega
        by_cases hg1 : (4611686018427387904 : Int) ≤ q
        · have hgb : decide ((4611686018427387904 : Int) < (q : Int) + 1) = true := by simp; omega
          have HV := Lib.hid (show qV true q r = 0 by unfold qV q2; simp; try omega)
          have HE := Lib.hid (show qE true q r = 10 by unfold qE q2; simp; try omega)
          skip
          go_enter Try.func28, Try.ntmps28
          go_wp2_with fail
          refine (hD'.out _).mono ?_
          rintro e w' ⟨rfl, nd, rfl⟩
          go_wp2_with fail
          go_ret2
          exact ⟨ret_ii HV.out.symm HE.out.symm, (Kp.refl _ _).drewN nd⟩
        · have hgb : decide ((4611686018427387904 : Int) < (q : Int) + 1) = false := by simp; omega
          have hq3 : (q : Int) ≤ 4611686018427387903 := by omega
          have hgc : decide ((4611686018427387904 : Int) ≤ (q : Int)) = false := by simp; omega
          have hgd : decide ((4611686018427387904 : Int) < (q : Int) + 1) = false := by simp; omega
          have HV := Lib.hid (show qV true q r = -((q : Int) + 1) by unfold qV q2; simp; try omega)
          have HE := Lib.hid (show qE true q r = 0 by unfold qE q2; simp; try omega)
          clear hgb hg1 hg
          go_enter Try.func28, Try.ntmps28
          go_wp2_with fail
          refine (hD'.out _).mono ?_
          rintro e w' ⟨rfl, nd, rfl⟩
          go_wp2_with fail
          go_ret2
          exact ⟨ret_ii HV.out.symm HE.out.symm, (Kp.refl _ _).drewN nd⟩
    · have hrb : decide ((0 : Int) < (r : Int)) = false := by simp; omega
      by_cases hg : (4611686018427387904 : Int) < q
      · have hgb : decide ((4611686018427387904 : Int) < (q : Int)) = true := by simp; omega
        have HV := Lib.hid (show qV true q r = 0 by unfold qV q2; simp; try omega)
        have HE := Lib.hid (show qE true q r = 10 by unfold qE q2; simp; try omega)
        skip
        go_enter Try.func28, Try.ntmps28
        go_wp2_with fail
        refine (hD'.out _).mono ?_
        rintro e w' ⟨rfl, nd, rfl⟩
        go_wp2_with fail
        go_ret2
        exact ⟨ret_ii HV.out.symm HE.out.symm, (Kp.refl _ _).drewN nd⟩
      · have hgb : decide ((4611686018427387904 : Int) < (q : Int)) = false := by simp; omega
        have hq2 : (q : Int) ≤ 4611686018427387904 := by omega
        have HV := Lib.hid (show qV true q r = -(q : Int) by unfold qV q2; simp; try omega)
        have HE := Lib.hid (show qE true q r = 0 by unfold qE q2; simp; try omega)
        skip
        go_enter Try.func28, Try.ntmps28
        go_wp2_with fail
        refine (hD'.out _).mono ?_
        rintro e w' ⟨rfl, nd, rfl⟩
        go_wp2_with fail
        go_ret2
        exact ⟨ret_ii HV.out.symm HE.out.symm, (Kp.refl _ _).drewN nd⟩

theorem quot_big (high low y : Nat) (neg : Bool) (w : World) (hlt : (y : Int) ≤ high) :
    Calls Try.prog 28 #[.int .u64 (high : Int), .int .u64 (low : Int), .int .u64 (y : Int), .bool neg] w fun e w' =>
      e = .returned (.tuple #[.int .i64 0, .int .i64 10]) ∧ Kp no w w' := by
  go_enter Try.func28, Try.ntmps28
  go_wp2_with fail
  go_ret2
  exact ⟨rfl, Kp.refl _ _⟩

theorem qV_sq (N y : Nat) (neg : Bool) (hy : 0 < y) : qV neg (N / y : Nat) (N % y : Nat) = inV (sq N y neg) ∧ qE neg (N / y : Nat) (N % y : Nat) = inE (sq N y neg) := by
  cases neg
  · have e : sq N y false = ((N / y : Nat) : Int) := rfl
    rw [e]
    generalize N / y = q
    have h2 : q2 false q ((N % y : Nat) : Int) = q := by simp [q2]
    unfold qV qE inV inE
    rw [h2]
    by_cases h : (4611686018427387904 : Int) < q
    · have : inB (q : Int) = false := inB_not.2 (.inr h)
      simp [h, this]
    · have : inB (q : Int) = true := inB_iff.2 (by omega)
      simp [h, this]
  · rw [sq_neg N y hy]
    generalize N / y = q
    generalize N % y = r
    unfold qV qE inV inE q2
    by_cases h0 : r = 0
    · subst h0
      by_cases h : (4611686018427387904 : Int) < q
      · have : inB (-(q : Int)) = false := inB_not.2 (by omega)
        simp [h, this]
      · have : inB (-(q : Int)) = true := inB_iff.2 (by omega)
        simp [h, this]
    · have hr : (0 : Int) < r := by omega
      rw [if_neg h0]
      by_cases h : (q : Int) ≤ 4611686018427387904
      · have e : (if true = true ∧ (0 : Int) < r ∧ (q : Int) ≤ 4611686018427387904 then (q : Int) + 1 else q) = q + 1 := if_pos ⟨rfl, hr, h⟩
        rw [e]
        by_cases h2 : (4611686018427387904 : Int) < (q : Int) + 1
        · have : inB (-(q : Int) - 1) = false := inB_not.2 (by omega)
          rw [if_pos h2, if_pos h2, this]; exact ⟨rfl, rfl⟩
        · have : inB (-(q : Int) - 1) = true := inB_iff.2 (by omega)
          rw [if_neg h2, if_neg h2, this]; exact ⟨by simp; omega, rfl⟩
      · have e : (if true = true ∧ (0 : Int) < r ∧ (q : Int) ≤ 4611686018427387904 then (q : Int) + 1 else q) = q := if_neg (fun hh => h hh.2.2)
        have : inB (-(q : Int) - 1) = false := inB_not.2 (by omega)
        have h3 : (4611686018427387904 : Int) < q := by omega
        simp only [if_neg (show ¬ (True ∧ (0 : Int) < r ∧ (q : Int) ≤ 4611686018427387904) from fun hh => h hh.2.2), if_pos h3, this]
        exact ⟨rfl, rfl⟩

theorem quot_c (high low y N : Nat) (neg : Bool) (w : World) (hN : high * 18446744073709551616 + low = N) (hl : low < 18446744073709551616) (hy : 0 < y) (hy' : y < 18446744073709551616) :
    Calls Try.prog 28 #[.int .u64 (high : Int), .int .u64 (low : Int), .int .u64 (y : Int), .bool neg] w fun e w' =>
      e = .returned (.tuple #[.int .i64 (inV (sq N y neg)), .int .i64 (inE (sq N y neg))]) ∧ Kp no w w' := by
  by_cases hb : y ≤ high
  · have hn := sq_big high low y neg hy hb
    rw [hN] at hn
    rw [inV_no hn, inE_no hn]
    exact quot_big high low y neg w (by omega)
  · have hD := fun w => div64_c high low y w hl hy' (by omega)
    rw [hN] at hD
    have hq : N / y < 18446744073709551616 := by
      rw [Nat.div_lt_iff_lt_mul hy]
      have : (high + 1) * 18446744073709551616 ≤ y * 18446744073709551616 := Nat.mul_le_mul_right _ (by omega)
      omega
    obtain ⟨h1, h2⟩ := qV_sq N y neg hy
    rw [← h1, ← h2]
    exact quot_core high low y (N / y) (N % y) neg w (by omega) (by omega) hD

theorem mul_c (a b : Int) (w : World) (a0 : -9223372036854775808 ≤ a) (a1 : a ≤ 9223372036854775807) (b0 : -9223372036854775808 ≤ b) (b1 : b ≤ 9223372036854775807) :
    Calls Try.prog 16 #[.int .i64 a, .int .i64 b] w fun e w' => e = .returned (.tuple #[.int .i64 (mulV a b), .int .i64 (mulE a b)]) ∧ Kp no w w' := by
  cases hab : (inB a && inB b)
  · have hv : mulV a b = 0 := by simp only [mulV, hab]; rfl
    have he : mulE a b = 10 := by simp only [mulE, hab]; rfl
    rw [hv, he]
    clear hv he
    go_enter Try.func16, Try.ntmps16
    go_wp2_with fail
    refine (within2 _ a b _ (by simp [go_sem]) (by simp [go_sem]) false hab).mono ?_
    rintro e w' ⟨rfl, rfl⟩
    go_wp2_with fail
    go_ret2
    exact ⟨rfl, (Kp.refl _ _).alloc _⟩
  · have hv : mulV a b = inV (a * b / 65536) := by simp only [mulV, hab]; rfl
    have he : mulE a b = inE (a * b / 65536) := by simp only [mulE, hab]; rfl
    rw [hv, he, ← sq_mul a b]
    have h1 := hab
    rw [Bool.and_eq_true, inB_iff, inB_iff] at h1
    have hA : a.natAbs < 18446744073709551616 := by omega
    have hB : b.natAbs < 18446744073709551616 := by omega
    have sA := Lib.hid (fun w => size_c a w a0 a1)
    have sB := Lib.hid (fun w => size_c b w b0 b1)
    generalize a.natAbs = x at *
    generalize b.natAbs = y at *
    generalize hda : decide (a < 0) = da at *
    generalize hdb : decide (b < 0) = db at *
    have hM := Lib.hid (fun w => mul64_c x y hA hB w)
    have hN : x * y / 18446744073709551616 * 18446744073709551616 + x * y % 18446744073709551616 = x * y := by rw [Nat.mul_comm]; exact Nat.div_add_mod _ _
    have hl : x * y % 18446744073709551616 < 18446744073709551616 := Nat.mod_lt _ (by omega)
    generalize x * y / 18446744073709551616 = hi at *
    generalize x * y % 18446744073709551616 = lo at *
    generalize x * y = N at *
    have hQ := Lib.hid (fun w => quot_c hi lo 65536 N (da != db) w hN hl (by omega) (by omega))
    clear hN hl hA hB hv he hda hdb h1
    go_enter Try.func16, Try.ntmps16
    go_wp2_with fail
    refine (within2 _ a b _ (by simp [go_sem]) (by simp [go_sem]) true hab).mono ?_
    rintro e w' ⟨rfl, rfl⟩
    go_wp2_with fail
    refine (sA.out _).mono ?_
    rintro e w' ⟨rfl, rfl⟩
    go_wp2_with fail
    refine (sB.out _).mono ?_
    rintro e w' ⟨rfl, rfl⟩
    go_wp2_with fail
    refine (hM.out _).mono ?_
    rintro e w' ⟨rfl, rfl⟩
    go_wp2_with fail
    refine (hQ.out _).mono ?_
    rintro e w' ⟨rfl, hk⟩
    go_wp2_with fail
    go_ret2
    exact ⟨rfl, ((Kp.refl _ _).alloc _).trans hk⟩
end Go.Proofs.Ytpjapjddfldniaa
