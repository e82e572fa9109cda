/- The walk of math/bits.Div64, over all numbers that it takes. -/
import Derived.Test.YtpjapjddfldniaaBitFns
import Derived.Deep.QuietTactic
import Derived.BigQuiet
import Derived.Outline
namespace Go.Proofs.Ytpjapjddfldniaa
open Go.RowKit

set_option maxRecDepth 100000 in
theorem div64_zero (low y : Nat) (w : World) (hl : low < 18446744073709551616) (hy : 0 < y) (hy' : y < 18446744073709551616) :
    Calls Try.prog 29 #[.int .u64 0, .int .u64 (low : Int), .int .u64 (y : Int)] w fun e w' =>
      e = .returned (.tuple #[.int .u64 ((low / y : Nat) : Int), .int .u64 ((low % y : Nat) : Int)]) ∧ ∃ n, w' = w.drewN n := by
  have h1 : (1 : Int) ≤ y := by omega
  have h2 : ((y : Int) == 0) = false := by simp; omega
  have hy0 : decide (y = 0) = false := by simp; omega
  obtain ⟨Q, hQ⟩ : ∃ Q, low / y = Q := ⟨_, rfl⟩
  obtain ⟨R, hR⟩ : ∃ R, low % y = R := ⟨_, rfl⟩
  have eQ : (low : Int) / (y : Int) = (Q : Int) := by rw [← hQ]; exact (Int.natCast_ediv low y).symm
  have eR : (low : Int) % (y : Int) = (R : Int) := by rw [← hR]; exact (Int.natCast_emod low y).symm
  have bQ : Q ≤ 18446744073709551615 := by rw [← hQ]; have := Nat.div_le_self low y; omega
  have bR : R ≤ 18446744073709551615 := by rw [← hR]; have := Nat.mod_le low y; omega
  rw [hQ, hR]
  clear hQ hR
  go_enter Try.func29, Try.ntmps29
  go_wp2
  go_quiet (fail)
  go_wp2
  go_ret2
  exact ⟨ret_ii rfl eR, _, rfl⟩

/-- One digit's rest, operation by operation. -/
theorem digit_eqs (r d y Q : Nat) (hy : 0 < y) (h64 : y ≤ 18446744073709551616) (hQ : Q = (r * 4294967296 + d) / y) : ∃ (A B C : Int) (R : Nat),
    IntKind.u64.wrap ((r : Int) * 4294967296) = A ∧ IntKind.u64.wrap (A + d) = B ∧ IntKind.u64.wrap ((Q : Int) * (y : Int)) = C ∧ IntKind.u64.wrap (B - C) = (R : Int) ∧
      R = (r * 4294967296 + d) % y ∧ 0 ≤ A ∧ A ≤ 18446744073709551615 ∧ 0 ≤ B ∧ B ≤ 18446744073709551615 ∧ 0 ≤ C ∧ C ≤ 18446744073709551615 := by
  refine ⟨_, _, _, (r * 4294967296 + d) % y, rfl, rfl, rfl, ?_, rfl, ?_⟩
  · rw [hQ]
    have := rest_mod r d y hy h64
    simp only [IntKind.wrap_u64]
    exact this
  · simp only [IntKind.wrap_u64]
    omega

/-- The start of a digit, operation by operation. -/
theorem start_eqs (u a : Nat) (hu : u < 18446744073709551616) : ∃ q p h : Nat,
    (u : Int) / (a : Int) = (q : Int) ∧ IntKind.u64.wrap ((q : Int) * (a : Int)) = (p : Int) ∧ (u : Int) - (p : Int) = (h : Int) ∧ q = u / a ∧ h = u - u / a * a ∧ p ≤ u := by
  have h1 : u / a * a ≤ u := Nat.div_mul_le_self u a
  refine ⟨u / a, u / a * a, u - u / a * a, (Int.natCast_ediv u a).symm, ?_, by omega, rfl, rfl, h1⟩
  rw [← Int.natCast_mul]; exact wrapN _ (by omega)

set_option maxRecDepth 100000 in
set_option maxHeartbeats 4000000 in
theorem div64_pos (high low y : Nat) (w : World) (hh : 1 ≤ high) (hl : low < 18446744073709551616) (hy' : y < 18446744073709551616) (hlt : high < y) :
    Calls Try.prog 29 #[.int .u64 (high : Int), .int .u64 (low : Int), .int .u64 (y : Int)] w fun e w' =>
      e = .returned (.tuple #[.int .u64 (((high * 18446744073709551616 + low) / y : Nat) : Int), .int .u64 (((high * 18446744073709551616 + low) % y : Nat) : Int)]) ∧ w = w' := by
  obtain ⟨n1, n2, n3⟩ := norm_y y (by omega) hy'
  have h2 : ((y : Int) == 0) = false := by simp; omega
  have h3 : ((high : Int) == 0) = false := by simp; omega
  obtain ⟨s, hs⟩ : ∃ s, 63 - Nat.log2 y = s := ⟨_, rfl⟩
  have hz := fun w => zeros64_c y w (by omega) hy'
  rw [hs] at n2 n3 hz
  have hz' := Lib.hid hz
  have hs2 : s ≤ 63 := by omega
  clear hz hs n1
  have hp : 0 < 2 ^ s := Nat.two_pow_pos s
  -- the divisor
  obtain ⟨Y, hY⟩ : ∃ Y, y * 2 ^ s = Y := ⟨_, rfl⟩
  have eY : IntKind.u64.wrap ((y : Int) * 2 ^ s) = (Y : Int) := by
    rw [← hY, show (2 : Int) ^ s = ((2 ^ s : Nat) : Int) by simp, ← Int.natCast_mul]; exact wrapN _ n2
  rw [hY] at n2 n3
  have hY0 : 0 < Y := by omega
  obtain ⟨a, ha⟩ : ∃ a, Y / 4294967296 = a := ⟨_, rfl⟩
  obtain ⟨b, hb⟩ : ∃ b, Y % 4294967296 = b := ⟨_, rfl⟩
  have ea : (Y : Int) / 4294967296 = (a : Int) := by omega
  have eb : bits .and .u64 (Y : Int) 4294967295 = (b : Int) := by rw [maskN _ n2, hb]
  -- the dividend
  obtain ⟨u1, u2, u3⟩ := norm_u high low s (by omega) hl
  have hsh : high * 2 ^ s < Y := by rw [← hY]; exact Nat.mul_lt_mul_of_pos_right hlt hp
  obtain ⟨P, hP⟩ : ∃ P, high * 2 ^ s = P := ⟨_, rfl⟩
  have eP : IntKind.u64.wrap ((high : Int) * 2 ^ s) = (P : Int) := by
    rw [← hP, show (2 : Int) ^ s = ((2 ^ s : Nat) : Int) by simp, ← Int.natCast_mul]; exact wrapN _ (by omega)
  obtain ⟨L, hL⟩ : ∃ L, low / 2 ^ (64 - s) = L := ⟨_, rfl⟩
  have eL : (low : Int) / 2 ^ (64 - s) = (L : Int) := by
    rw [← hL, show (2 : Int) ^ (64 - s) = ((2 ^ (64 - s) : Nat) : Int) by simp, ← Int.natCast_ediv]
  rw [hP, hL] at u1 u3
  rw [hL] at u2
  have huY : P + L < Y := by
    have : (high + 1) * 2 ^ s ≤ y * 2 ^ s := Nat.mul_le_mul_right _ (by omega)
    rw [Nat.add_mul, hP, hY] at this
    omega
  obtain ⟨u, hu⟩ : ∃ u, P + L = u := ⟨_, rfl⟩
  have eu : bits .or .u64 (P : Int) (L : Int) = (u : Int) := by
    rw [u64_or_nat P L (by omega) (by omega), u1, hu]
  obtain ⟨v, hv⟩ : ∃ v, low * 2 ^ s % 18446744073709551616 = v := ⟨_, rfl⟩
  have ev : IntKind.u64.wrap ((low : Int) * 2 ^ s) = (v : Int) := by
    rw [show (2 : Int) ^ s = ((2 ^ s : Nat) : Int) by simp, ← Int.natCast_mul, wrapM, hv]
  have hv2 : v < 18446744073709551616 := by rw [← hv]; exact Nat.mod_lt _ (by omega)
  rw [hu, hv] at u3
  rw [hu] at huY
  obtain ⟨d1, hd1⟩ : ∃ d1, v / 4294967296 = d1 := ⟨_, rfl⟩
  obtain ⟨d0, hd0⟩ : ∃ d0, v % 4294967296 = d0 := ⟨_, rfl⟩
  have ed1 : (v : Int) / 4294967296 = (d1 : Int) := by omega
  have ed0 : bits .and .u64 (v : Int) 4294967295 = (d0 : Int) := by rw [maskN _ hv2, hd0]
  -- the answer
  have hall : (high * 18446744073709551616 + low) / y = (u * 18446744073709551616 + v) / Y ∧ (high * 18446744073709551616 + low) % y = (u * 18446744073709551616 + v) % Y / 2 ^ s := by
    obtain ⟨k1, k2⟩ := shifted (high * 18446744073709551616 + low) y (2 ^ s) hp
    rw [hY, ← u3] at k1 k2
    exact ⟨k1.symm, k2.symm⟩
  have hall' := Lib.hid hall
  have eP' := Lib.hid eP
  have eL' := Lib.hid eL
  have ev' := Lib.hid ev
  have eY' := Lib.hid eY
  clear hall u3 hsh hP hL eP eL ev eY
  have htwo := two_digits u d1 d0 Y hY0
  have ev3 : u * 18446744073709551616 + d1 * 4294967296 + d0 = u * 18446744073709551616 + v := by omega
  rw [ev3] at htwo
  have htwo' := Lib.hid htwo
  have ha1 : 2147483648 ≤ a := by omega
  have ha2 : a < 4294967296 := by omega
  have hb2 : b < 4294967296 := by omega
  have hYab : Y = a * 4294967296 + b := by omega
  have hd12 : d1 < 4294967296 := by omega
  have hd02 : d0 < 4294967296 := by omega
  have C1 := corr_start hYab hb2 ha1 ha2 hd12 huY
  obtain ⟨q0, p0, h0, eq0, ep0, eh0, hq0, hh0, hp0⟩ := start_eqs u a (by omega)
  rw [← hq0] at C1
  have hh0' : h0 = u - q0 * a := by rw [hq0]; exact hh0
  rw [← hh0'] at C1
  have b1 := C1.h_q
  have C1' := Lib.hid C1
  clear hh0 hh0' hq0 htwo hY hu hv hd1 hd0 ha hb u1 u2 ev3 hYab C1
  have eP := eP'.out
  have eL := eL'.out
  have ev := ev'.out
  have eY := eY'.out
  obtain ⟨Q1, hQ1⟩ : ∃ Q1, (u * 4294967296 + d1) / Y = Q1 := ⟨_, rfl⟩
  have hQ1' := Lib.hid hQ1
  obtain ⟨A, B, C, R, kA, kB, kC, kR, hR, bA1, bA2, bB1, bB2, bC1, bC2⟩ := digit_eqs u d1 Y Q1 hY0 (by omega) hQ1.symm
  have hR' := Lib.hid hR
  have bR : R < Y := by rw [hR]; exact Nat.mod_lt _ hY0
  have bQ1 : Q1 < 4294967296 := by rw [← hQ1]; exact C1'.out.lt
  obtain ⟨q1, p1, h1, eq1, ep1, eh1, hq1, hh1, hp1⟩ := start_eqs R a (by omega)
  have C2 := corr_start C1'.out.h_y hb2 ha1 ha2 hd02 bR
  rw [← hq1] at hh1 C2
  rw [← hh1] at C2
  have b2 := C2.h_q
  have C2' := Lib.hid C2
  obtain ⟨Q0, hQ0⟩ : ∃ Q0, (R * 4294967296 + d0) / Y = Q0 := ⟨_, rfl⟩
  have hQ0' := Lib.hid hQ0
  obtain ⟨A', B', C', R0, kA', kB', kC', kR', hR0, bA1', bA2', bB1', bB2', bC1', bC2'⟩ := digit_eqs R d0 Y Q0 hY0 (by omega) hQ0.symm
  have hR0' := Lib.hid hR0
  have bR0 : R0 < Y := by rw [hR0]; exact Nat.mod_lt _ hY0
  have bQ0 : Q0 < 4294967296 := by rw [← hQ0]; exact C2.lt
  obtain ⟨R00, hR00⟩ : ∃ R00, R0 / 2 ^ s = R00 := ⟨_, rfl⟩
  have eR00 : (R0 : Int) / 2 ^ s = (R00 : Int) := by
    rw [← hR00, show (2 : Int) ^ s = ((2 ^ s : Nat) : Int) by simp, ← Int.natCast_ediv]
  have bR00 : R00 ≤ R0 := by rw [← hR00]; exact Nat.div_le_self _ _
  have hans : (high * 18446744073709551616 + low) / y = Q1 * 4294967296 + Q0 ∧ (high * 18446744073709551616 + low) % y = R00 := by
    obtain ⟨g1, g2⟩ := hall'.out
    obtain ⟨g3, g4⟩ := htwo'.out
    rw [g1, g2, ← g3, ← g4, hQ1, ← hR, hQ0, ← hR0, hR00]
    exact ⟨rfl, rfl⟩
  rw [hans.1, hans.2]
  have Kp := Lib.hid hp
  clear hp
  have K2 := Lib.hid (And.intro kA' (And.intro kB' (And.intro kC' (And.intro kR' eR00))))
  have K1 := Lib.hid (And.intro kA (And.intro kB (And.intro kC (And.intro kR (And.intro eq1 (And.intro ep1 eh1))))))
  clear hQ1 hR hq1 hh1 C2 hQ0 hR0 hR00 hans kA kB kC kR kA' kB' kC' kR' eR00 eq1 ep1 eh1
  go_enter Try.func29, Try.ntmps29
  go_wp2_with (go_at_call 30; refine (hz'.out _).mono ?_; rintro e w' ⟨rfl, rfl⟩)
  go_loop [15, 16] (fun x z => ∃ q h : Nat, x = .int .u64 q ∧ z = .int .u64 h ∧ (q : Int) ≤ 4294967297 ∧ (h : Int) < 4294967296 ∧ Hid (Corr u d1 Y a b q h)) (fun x _ => (intOf x).toNat)
  case atStart => exact ⟨q0, h0, rfl, rfl, by omega, by have := C1'.out.h_h; omega, C1'⟩
  case round =>
    clear eP eL ev eY eu
    obtain ⟨q, h, rfl, rfl, bq, bh, CC⟩ := hrel
    have hpr0 := CC.out.prod
    obtain ⟨m, hm⟩ : ∃ m, q * b = m := ⟨_, rfl⟩
    have em : IntKind.u64.wrap ((q : Int) * (b : Int)) = (m : Int) := by rw [← Int.natCast_mul, hm]; exact wrapN _ (by rw [hm] at hpr0; omega)
    rw [hm] at hpr0
    have hpr : (m : Int) ≤ 18446744073709551615 := by omega
    clear hpr0
    have over : (4294967296 ≤ q ∨ h * 4294967296 + d1 < q * b) → 0 < q := fun hv => Nat.lt_of_le_of_lt (Nat.zero_le _) (CC.out.over hv)
    by_cases hover : (4294967296 : Int) ≤ q ∨ (h : Int) * 4294967296 + d1 < m
    · have hover' := Lib.hid (show 4294967296 ≤ q ∨ h * 4294967296 + d1 < q * b by rw [hm]; omega)
      have hq0 := over hover'.out
      have eqq : (q : Int) - 1 = ((q - 1 : Nat) : Int) := by omega
      by_cases hlv : (h : Int) + a < 4294967296
      · have CN := Lib.hid (CC.out.next hover'.out (by omega))
        have hl1 : decide ((4294967296 : Int) ≤ (h : Int) + (a : Int)) = false := by simp; omega
        by_cases hqq : (4294967296 : Int) ≤ q
        · clear hm hover over eqq
          go_wp2_with fail
          go_round
          case rel => exact ⟨q - 1, h + a, by go_num, by go_num, by omega, by omega, CN⟩
          case measure => simp [intOf]; omega
        · have hg : decide ((4294967296 : Int) * (h : Int) + (d1 : Int) < (m : Int)) = true := by simp; omega
          have hqf : decide ((4294967296 : Int) ≤ (q : Int)) = false := by simp; omega
          clear hm hover over eqq
          go_wp2_with fail
          go_round
          case rel => exact ⟨q - 1, h + a, by go_num, by go_num, by omega, by omega, CN⟩
          case measure => simp [intOf]; omega
      · have hq1 := CC.out.leave hover'.out (by omega)
        have hl1 : decide ((4294967296 : Int) ≤ (h : Int) + (a : Int)) = true := by simp; omega
        have eq1 : (q : Int) - 1 = (Q1 : Int) := by rw [eqq, hq1, hQ1'.out]
        by_cases hqq : (4294967296 : Int) ≤ q
        · clear hm hover over eqq hq1
          obtain ⟨kA, kB, kC, kR, fq1, fp1, fh1⟩ := K1.out
          go_wp2_with fail
          clear kA kB kC kR fq1 fp1 fh1
          go_loop [18, 16] (fun x z => ∃ q h : Nat, x = .int .u64 q ∧ z = .int .u64 h ∧ (q : Int) ≤ 4294967297 ∧ (h : Int) < 4294967296 ∧ Hid (Corr R d0 Y a b q h)) (fun x _ => (intOf x).toNat)
          case atStart => exact ⟨q1, h1, rfl, rfl, by omega, by have := C2'.out.h_h; omega, C2'⟩
          case round =>
            obtain ⟨q, h, rfl, rfl, bq, bh, CC⟩ := hrel
            have hpr0 := CC.out.prod
            obtain ⟨m, hm⟩ : ∃ m, q * b = m := ⟨_, rfl⟩
            have em : IntKind.u64.wrap ((q : Int) * (b : Int)) = (m : Int) := by rw [← Int.natCast_mul, hm]; exact wrapN _ (by rw [hm] at hpr0; omega)
            rw [hm] at hpr0
            have hpr : (m : Int) ≤ 18446744073709551615 := by omega
            clear hpr0
            have over : (4294967296 ≤ q ∨ h * 4294967296 + d0 < q * b) → 0 < q := fun hv => Nat.lt_of_le_of_lt (Nat.zero_le _) (CC.out.over hv)
            by_cases hover : (4294967296 : Int) ≤ q ∨ (h : Int) * 4294967296 + d0 < m
            · have hover' := Lib.hid (show 4294967296 ≤ q ∨ h * 4294967296 + d0 < q * b by rw [hm]; omega)
              have hq0 := over hover'.out
              have eqq : (q : Int) - 1 = ((q - 1 : Nat) : Int) := by omega
              by_cases hlv : (h : Int) + a < 4294967296
              · have CN := Lib.hid (CC.out.next hover'.out (by omega))
                have hl1 : decide ((4294967296 : Int) ≤ (h : Int) + (a : Int)) = false := by simp; omega
                by_cases hqq : (4294967296 : Int) ≤ q
                · clear hm hover over eqq
                  go_wp2_with fail
                  go_round
                  case rel => exact ⟨q - 1, h + a, by go_num, by go_num, by omega, by omega, CN⟩
                  case measure => simp [intOf]; omega
                · have hg : decide ((4294967296 : Int) * (h : Int) + (d0 : Int) < (m : Int)) = true := by simp; omega
                  have hqf : decide ((4294967296 : Int) ≤ (q : Int)) = false := by simp; omega
                  clear hm hover over eqq
                  go_wp2_with fail
                  go_round
                  case rel => exact ⟨q - 1, h + a, by go_num, by go_num, by omega, by omega, CN⟩
                  case measure => simp [intOf]; omega
              · have hq1 := CC.out.leave hover'.out (by omega)
                have hl1 : decide ((4294967296 : Int) ≤ (h : Int) + (a : Int)) = true := by simp; omega
                have eq1 : (q : Int) - 1 = (Q0 : Int) := by rw [eqq, hq1, hQ0'.out]
                by_cases hqq : (4294967296 : Int) ≤ q
                · clear hm hover over eqq hq1
                  obtain ⟨kA, kB, kC, kR, fR⟩ := K2.out
                  go_wp2_with fail
                  go_ret2
                  exact ⟨rfl, rfl⟩
                · have hg : decide ((4294967296 : Int) * (h : Int) + (d0 : Int) < (m : Int)) = true := by simp; omega
                  have hqf : decide ((4294967296 : Int) ≤ (q : Int)) = false := by simp; omega
                  clear hm hover over eqq hq1
                  obtain ⟨kA, kB, kC, kR, fR⟩ := K2.out
                  go_wp2_with fail
                  go_ret2
                  exact ⟨rfl, rfl⟩
            · obtain rfl : q = Q0 := by rw [← hQ0'.out]; exact CC.out.stop (by rw [hm]; omega)
              have hg : decide ((4294967296 : Int) * (h : Int) + (d0 : Int) < (m : Int)) = false := by simp; omega
              have hqf : decide ((4294967296 : Int) ≤ (q : Int)) = false := by simp; omega
              clear hm hover over
              obtain ⟨kA, kB, kC, kR, fR⟩ := K2.out
              go_wp2_with fail
              go_ret2
              exact ⟨rfl, rfl⟩
        · have hg : decide ((4294967296 : Int) * (h : Int) + (d1 : Int) < (m : Int)) = true := by simp; omega
          have hqf : decide ((4294967296 : Int) ≤ (q : Int)) = false := by simp; omega
          clear hm hover over eqq hq1
          obtain ⟨kA, kB, kC, kR, fq1, fp1, fh1⟩ := K1.out
          go_wp2_with fail
          clear kA kB kC kR fq1 fp1 fh1
          go_loop [18, 16] (fun x z => ∃ q h : Nat, x = .int .u64 q ∧ z = .int .u64 h ∧ (q : Int) ≤ 4294967297 ∧ (h : Int) < 4294967296 ∧ Hid (Corr R d0 Y a b q h)) (fun x _ => (intOf x).toNat)
          case atStart => exact ⟨q1, h1, rfl, rfl, by omega, by have := C2'.out.h_h; omega, C2'⟩
          case round =>
            obtain ⟨q, h, rfl, rfl, bq, bh, CC⟩ := hrel
            have hpr0 := CC.out.prod
            obtain ⟨m, hm⟩ : ∃ m, q * b = m := ⟨_, rfl⟩
            have em : IntKind.u64.wrap ((q : Int) * (b : Int)) = (m : Int) := by rw [← Int.natCast_mul, hm]; exact wrapN _ (by rw [hm] at hpr0; omega)
            rw [hm] at hpr0
            have hpr : (m : Int) ≤ 18446744073709551615 := by omega
            clear hpr0
            have over : (4294967296 ≤ q ∨ h * 4294967296 + d0 < q * b) → 0 < q := fun hv => Nat.lt_of_le_of_lt (Nat.zero_le _) (CC.out.over hv)
            by_cases hover : (4294967296 : Int) ≤ q ∨ (h : Int) * 4294967296 + d0 < m
            · have hover' := Lib.hid (show 4294967296 ≤ q ∨ h * 4294967296 + d0 < q * b by rw [hm]; omega)
              have hq0 := over hover'.out
              have eqq : (q : Int) - 1 = ((q - 1 : Nat) : Int) := by omega
              by_cases hlv : (h : Int) + a < 4294967296
              · have CN := Lib.hid (CC.out.next hover'.out (by omega))
                have hl1 : decide ((4294967296 : Int) ≤ (h : Int) + (a : Int)) = false := by simp; omega
                by_cases hqq : (4294967296 : Int) ≤ q
                · clear hm hover over eqq
                  go_wp2_with fail
                  go_round
                  case rel => exact ⟨q - 1, h + a, by go_num, by go_num, by omega, by omega, CN⟩
                  case measure => simp [intOf]; omega
                · have hg : decide ((4294967296 : Int) * (h : Int) + (d0 : Int) < (m : Int)) = true := by simp; omega
                  have hqf : decide ((4294967296 : Int) ≤ (q : Int)) = false := by simp; omega
                  clear hm hover over eqq
                  go_wp2_with fail
                  go_round
                  case rel => exact ⟨q - 1, h + a, by go_num, by go_num, by omega, by omega, CN⟩
                  case measure => simp [intOf]; omega
              · have hq1 := CC.out.leave hover'.out (by omega)
                have hl1 : decide ((4294967296 : Int) ≤ (h : Int) + (a : Int)) = true := by simp; omega
                have eq1 : (q : Int) - 1 = (Q0 : Int) := by rw [eqq, hq1, hQ0'.out]
                by_cases hqq : (4294967296 : Int) ≤ q
                · clear hm hover over eqq hq1
                  obtain ⟨kA, kB, kC, kR, fR⟩ := K2.out
                  go_wp2_with fail
                  go_ret2
                  exact ⟨rfl, rfl⟩
                · have hg : decide ((4294967296 : Int) * (h : Int) + (d0 : Int) < (m : Int)) = true := by simp; omega
                  have hqf : decide ((4294967296 : Int) ≤ (q : Int)) = false := by simp; omega
                  clear hm hover over eqq hq1
                  obtain ⟨kA, kB, kC, kR, fR⟩ := K2.out
                  go_wp2_with fail
                  go_ret2
                  exact ⟨rfl, rfl⟩
            · obtain rfl : q = Q0 := by rw [← hQ0'.out]; exact CC.out.stop (by rw [hm]; omega)
              have hg : decide ((4294967296 : Int) * (h : Int) + (d0 : Int) < (m : Int)) = false := by simp; omega
              have hqf : decide ((4294967296 : Int) ≤ (q : Int)) = false := by simp; omega
              clear hm hover over
              obtain ⟨kA, kB, kC, kR, fR⟩ := K2.out
              go_wp2_with fail
              go_ret2
              exact ⟨rfl, rfl⟩
    · obtain rfl : q = Q1 := by rw [← hQ1'.out]; exact CC.out.stop (by rw [hm]; omega)
      have hg : decide ((4294967296 : Int) * (h : Int) + (d1 : Int) < (m : Int)) = false := by simp; omega
      have hqf : decide ((4294967296 : Int) ≤ (q : Int)) = false := by simp; omega
      clear hm hover over
      obtain ⟨kA, kB, kC, kR, fq1, fp1, fh1⟩ := K1.out
      go_wp2_with fail
      clear kA kB kC kR fq1 fp1 fh1
      go_loop [18, 16] (fun x z => ∃ q h : Nat, x = .int .u64 q ∧ z = .int .u64 h ∧ (q : Int) ≤ 4294967297 ∧ (h : Int) < 4294967296 ∧ Hid (Corr R d0 Y a b q h)) (fun x _ => (intOf x).toNat)
      case atStart => exact ⟨q1, h1, rfl, rfl, by omega, by have := C2'.out.h_h; omega, C2'⟩
      case round =>
        obtain ⟨q, h, rfl, rfl, bq, bh, CC⟩ := hrel
        have hpr0 := CC.out.prod
        obtain ⟨m, hm⟩ : ∃ m, q * b = m := ⟨_, rfl⟩
        have em : IntKind.u64.wrap ((q : Int) * (b : Int)) = (m : Int) := by rw [← Int.natCast_mul, hm]; exact wrapN _ (by rw [hm] at hpr0; omega)
        rw [hm] at hpr0
        have hpr : (m : Int) ≤ 18446744073709551615 := by omega
        clear hpr0
        have over : (4294967296 ≤ q ∨ h * 4294967296 + d0 < q * b) → 0 < q := fun hv => Nat.lt_of_le_of_lt (Nat.zero_le _) (CC.out.over hv)
        by_cases hover : (4294967296 : Int) ≤ q ∨ (h : Int) * 4294967296 + d0 < m
        · have hover' := Lib.hid (show 4294967296 ≤ q ∨ h * 4294967296 + d0 < q * b by rw [hm]; omega)
          have hq0 := over hover'.out
          have eqq : (q : Int) - 1 = ((q - 1 : Nat) : Int) := by omega
          by_cases hlv : (h : Int) + a < 4294967296
          · have CN := Lib.hid (CC.out.next hover'.out (by omega))
            have hl1 : decide ((4294967296 : Int) ≤ (h : Int) + (a : Int)) = false := by simp; omega
            by_cases hqq : (4294967296 : Int) ≤ q
            · clear hm hover over eqq
              go_wp2_with fail
              go_round
              case rel => exact ⟨q - 1, h + a, by go_num, by go_num, by omega, by omega, CN⟩
              case measure => simp [intOf]; omega
            · have hg : decide ((4294967296 : Int) * (h : Int) + (d0 : Int) < (m : Int)) = true := by simp; omega
              have hqf : decide ((4294967296 : Int) ≤ (q : Int)) = false := by simp; omega
              clear hm hover over eqq
              go_wp2_with fail
              go_round
              case rel => exact ⟨q - 1, h + a, by go_num, by go_num, by omega, by omega, CN⟩
              case measure => simp [intOf]; omega
          · have hq1 := CC.out.leave hover'.out (by omega)
            have hl1 : decide ((4294967296 : Int) ≤ (h : Int) + (a : Int)) = true := by simp; omega
            have eq1 : (q : Int) - 1 = (Q0 : Int) := by rw [eqq, hq1, hQ0'.out]
            by_cases hqq : (4294967296 : Int) ≤ q
            · clear hm hover over eqq hq1
              obtain ⟨kA, kB, kC, kR, fR⟩ := K2.out
              go_wp2_with fail
              go_ret2
              exact ⟨rfl, rfl⟩
            · have hg : decide ((4294967296 : Int) * (h : Int) + (d0 : Int) < (m : Int)) = true := by simp; omega
              have hqf : decide ((4294967296 : Int) ≤ (q : Int)) = false := by simp; omega
              clear hm hover over eqq hq1
              obtain ⟨kA, kB, kC, kR, fR⟩ := K2.out
              go_wp2_with fail
              go_ret2
              exact ⟨rfl, rfl⟩
        · obtain rfl : q = Q0 := by rw [← hQ0'.out]; exact CC.out.stop (by rw [hm]; omega)
          have hg : decide ((4294967296 : Int) * (h : Int) + (d0 : Int) < (m : Int)) = false := by simp; omega
          have hqf : decide ((4294967296 : Int) ≤ (q : Int)) = false := by simp; omega
          clear hm hover over
          obtain ⟨kA, kB, kC, kR, fR⟩ := K2.out
          go_wp2_with fail
          go_ret2
          exact ⟨rfl, rfl⟩
/-- Any dividend. -/
theorem div64_c (high low y : Nat) (w : World) (hl : low < 18446744073709551616) (hy' : y < 18446744073709551616) (hlt : high < y) :
    Calls Try.prog 29 #[.int .u64 (high : Int), .int .u64 (low : Int), .int .u64 (y : Int)] w fun e w' =>
      e = .returned (.tuple #[.int .u64 (((high * 18446744073709551616 + low) / y : Nat) : Int), .int .u64 (((high * 18446744073709551616 + low) % y : Nat) : Int)]) ∧ ∃ n, w' = w.drewN n := by
  by_cases h : high = 0
  · subst h
    rw [Nat.zero_mul, Nat.zero_add]
    exact div64_zero low y w hl (by omega) hy'
  · refine (div64_pos high low y w (by omega) hl hy' hlt).mono ?_
    rintro e w' ⟨rfl, rfl⟩
    exact ⟨rfl, 0, rfl⟩
end Go.Proofs.Ytpjapjddfldniaa
