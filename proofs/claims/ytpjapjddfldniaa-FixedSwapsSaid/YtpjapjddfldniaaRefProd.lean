/- The walks of mullionref01.Mul, Div, and of fixed.Div. -/
import Derived.Test.YtpjapjddfldniaaQuot
import Derived.Outline
namespace Go.Proofs.Ytpjapjddfldniaa
open Go.RowKit

/-- One bit more of a product, when it may go on: bounds, the whole number, the rest. -/
theorem mul_step (a : Int) (n k : Nat) (q r aq ar : Int) (c : Nat) (hq : a * ((n / 2 ^ (k + 1) : Nat) : Int) / 65536 = q) (hr : a * ((n / 2 ^ (k + 1) : Nat) : Int) % 65536 = r)
    (haq : a / 65536 = aq) (har : a % 65536 = ar) (hc : n / 2 ^ k % 2 = c) :
    a * ((n / 2 ^ k : Nat) : Int) / 65536 = 2 * q + c * aq + (2 * r + c * ar) / 65536 ∧ a * ((n / 2 ^ k : Nat) : Int) % 65536 = (2 * r + c * ar) % 65536 := by
  have h1 := bit_next n k
  have h2 := mul_next a (n / 2 ^ (k + 1)) (n / 2 ^ k % 2) (Nat.mod_lt _ (by omega))
  rw [← h1, hq, hr, haq, har, hc] at h2
  rw [h2]
  omega

theorem bit_lit (x : Int) (h0 : 0 ≤ x) (h1 : x ≤ 9223372036854775807) : bits .and .i64 x 1 = x % 2 := by
  show IntKind.i64.wrap ((BitVec.ofInt 64 x &&& BitVec.ofInt 64 1).toNat : Int) = _
  have e : (BitVec.ofInt 64 x &&& BitVec.ofInt 64 1).toNat = x.toNat % 2 := by
    rw [BitVec.toNat_and, BitVec.toNat_ofInt, BitVec.toNat_ofInt]
    have e1 : (x % ((2 ^ 64 : Nat) : Int)).toNat = x.toNat := by congr 1; omega
    rw [e1, show ((1 : Int) % ((2 ^ 64 : Nat) : Int)).toNat = 1 from by decide, Nat.and_one_is_mod]
  rw [e, IntKind.wrap_i64]
  omega

set_option maxRecDepth 100000 in
set_option maxHeartbeats 2000000 in
theorem refMul_pos (a0 b0 X a : Int) (n : Nat) (w : World) (ha : inB a0 = true) (hb : inB b0 = true) (e1 : a = a0) (e2 : b0 = n) (hX : a0 * b0 / 65536 = X) :
    Calls Try.prog 17 #[.int .i64 a0, .int .i64 b0] w fun e w' => e = .returned (.tuple #[.int .i64 (inV X), .int .i64 (inE X)]) ∧ w = w' := by
  have hN : Hid (a * n / 65536 = X) := Lib.hid (by rw [← hX]; congr 1; rw [e1, e2])
  have hA1 := inB_iff.1 ha
  have hB1 := inB_iff.1 hb
  obtain ⟨hA1, hA2⟩ := hA1
  obtain ⟨hB1, hB2⟩ := hB1
  have hn : Hid (n ≤ 4611686018427387904) := Lib.hid (by omega)
  obtain ⟨aq, haq⟩ : ∃ aq, a / 65536 = aq := ⟨_, rfl⟩
  obtain ⟨ar, har⟩ : ∃ ar, a % 65536 = ar := ⟨_, rfl⟩
  have hA : Hid (a / 65536 = aq ∧ a % 65536 = ar) := Lib.hid ⟨haq, har⟩
  have hD : Hid (∀ w, Calls Try.prog 25 #[.int .i64 a, .int .i64 65536] w fun e w' => e = .returned (.tuple #[.int .i64 aq, .int .i64 ar]) ∧ w = w') :=
    Lib.hid (fun w => by rw [← haq, ← har]; exact down_c a 65536 w (by omega) (by omega) (by omega) (by omega))
  have q1 : -70368744177665 ≤ aq := by omega
  have q2 : aq ≤ 70368744177665 := by omega
  have q3 : 0 ≤ ar := by omega
  have q4 : ar ≤ 65535 := by omega
  clear hX haq har
  subst e1; subst e2
  go_enter Try.func17, Try.ntmps17
  go_wp2_with fail
  refine (may_c a _).mono ?_
  rintro e w' ⟨rfl, rfl⟩
  rw [ha]
  go_wp2_with fail
  refine (may_c (n : Int) _).mono ?_
  rintro e w' ⟨rfl, rfl⟩
  rw [hb]
  go_wp2_with fail

  refine (hD.out _).mono ?_
  rintro e w' ⟨rfl, rfl⟩
  go_wp2_with fail
  go_loop [10, 11, 12] (fun q r i => ∃ (Q R : Int) (j : Nat), q = .int .i64 Q ∧ r = .int .i64 R ∧ i = .int .i64 ((j : Int) - 1) ∧ j ≤ 63 ∧ -4611827018427387904 ≤ Q ∧ Q ≤ 4611827018427387904 ∧ 0 ≤ R ∧ R ≤ 65535 ∧
      Hid (a * ((n / 2 ^ j : Nat) : Int) / 65536 = Q ∧ a * ((n / 2 ^ j : Nat) : Int) % 65536 = R)) (fun _ _ i => (intOf i + 1).toNat)
  case atStart =>
    refine ⟨0, 0, 63, rfl, rfl, rfl, by omega, by omega, by omega, by omega, by omega, Lib.hid ?_⟩
    rw [Nat.div_eq_of_lt (show n < 2 ^ 63 by have := hn.out; omega)]
    simp
  case round =>
    obtain ⟨Q, R, j, rfl, rfl, rfl, hj, hQ0, hQ1, hR0, hR1, hB⟩ := hrel
    cases j with
    | zero =>
      have hz : Q = a * n / 65536 := by have := hB.out.1; rw [Nat.pow_zero, Nat.div_one] at this; exact this.symm
      rw [hN.out] at hz
      have hz' := Lib.hid hz
      cases hin : inB Q
      · have HV := Lib.hid (show inV X = 0 from inV_no (hz ▸ hin))
        have HE := Lib.hid (show inE X = 10 from inE_no (hz ▸ hin))
        clear hz
        go_wp2_with fail
        refine (may_c Q _).mono ?_
        rintro e w' ⟨rfl, rfl⟩
        rw [hin]
        go_wp2_with fail
        go_ret2
        exact ⟨ret_ii HV.out.symm HE.out.symm, rfl⟩
      · have HV := Lib.hid (show inV X = Q from by rw [inV_of (hz ▸ hin), ← hz])
        have HE := Lib.hid (show inE X = 0 from inE_of (hz ▸ hin))
        clear hz
        go_wp2_with fail
        refine (may_c Q _).mono ?_
        rintro e w' ⟨rfl, rfl⟩
        rw [hin]
        go_wp2_with fail
        go_ret2
        exact ⟨ret_ii HV.out.symm HE.out.symm, rfl⟩
    | succ k =>
      rw [show ((k + 1 : Nat) : Int) - 1 = (k : Int) by omega]
      have hi0 : decide ((0 : Int) ≤ (k : Int)) = true := by simp
      have hover : (2305843009213693952 < Q ∨ Q < -2305843009213693952) → inB X = false := fun h => by
        have := mul_over a n (k + 1) (by omega) (by rw [hB.out.1]; exact h)
        rw [hN.out] at this; exact this
      by_cases h1 : 2305843009213693952 < Q
      · have hno := hover (.inl h1)
        have HV := Lib.hid (inV_no hno)
        have HE := Lib.hid (inE_no hno)
        clear hover hno
        go_wp2_with fail
        go_ret2
        exact ⟨ret_ii HV.out.symm HE.out.symm, rfl⟩
      · by_cases h2 : Q < -2305843009213693952
        · have hno := hover (.inr h2)
          have HV := Lib.hid (inV_no hno)
          have HE := Lib.hid (inE_no hno)
          clear hover hno
          go_wp2_with fail
          go_ret2
          exact ⟨ret_ii HV.out.symm HE.out.symm, rfl⟩
        · clear hover
          obtain ⟨c, hc⟩ : ∃ c, n / 2 ^ k % 2 = c := ⟨_, rfl⟩
          have hst := mul_step a n k Q R aq ar c hB.out.1 hB.out.2 hA.out.1 hA.out.2 hc
          have hst' := Lib.hid hst
          have hc2 : c < 2 := by rw [← hc]; exact Nat.mod_lt _ (by omega)
          have eb : (n : Int) / 2 ^ k = ((n / 2 ^ k : Nat) : Int) := by rw [show (2 : Int) ^ k = ((2 ^ k : Nat) : Int) by simp, ← Int.natCast_ediv]
          obtain ⟨y, hy⟩ : ∃ y, n / 2 ^ k = y := ⟨_, rfl⟩
          have hyn : y ≤ n := by rw [← hy]; exact Nat.div_le_self _ _
          have hyn2 : y ≤ 4611686018427387904 := by have := hn.out; omega
          rw [hy] at eb
          rw [hy] at hc
          have ec : bits .and .i64 (y : Int) 1 = (c : Int) := by rw [bit_lit _ (by omega) (by omega)]; omega
          have ec2 : (y : Int) % 2 = (c : Int) := by omega
          clear hst hc hy hyn
          rcases (by omega : c = 0 ∨ c = 1) with rfl | rfl
          · go_wp2_with fail

            obtain ⟨Q2, hQ2⟩ : ∃ Q2, 2 * Q = Q2 := ⟨_, rfl⟩
            obtain ⟨R2, hR2⟩ : ∃ R2, 2 * R = R2 := ⟨_, rfl⟩
            rw [hQ2, hR2]
            have hQ2' := Lib.hid hQ2
            have hR2' := Lib.hid hR2
            have b1 : -4611826018427387904 ≤ Q2 := by omega
            have b2 : Q2 ≤ 4611826018427387904 := by omega
            have b3 : 0 ≤ R2 := by omega
            have b4 : R2 ≤ 196605 := by omega
            clear hQ2 hR2
            go_loop [10, 11, 13] (fun q r i => ∃ (m : Nat), q = .int .i64 (Q2 + m) ∧ r = .int .i64 (R2 - 65536 * m) ∧ i = .int .i64 m ∧ m ≤ 2 ∧ 65536 * (m : Int) ≤ R2) (fun _ _ i => 3 - (intOf i).toNat)
            case atStart => exact ⟨0, by simp, by simp, rfl, by omega, by omega⟩
            case round =>
              obtain ⟨m, rfl, rfl, rfl, hm, hmR⟩ := hrel
              have hm3 : decide ((m : Int) < 3) = true := by simp; omega
              by_cases hge : 65536 ≤ R2 - 65536 * m
              · go_wp2_with fail
                go_round
                case rel => exact ⟨m + 1, by go_num, by go_num, by go_num, by omega, by omega⟩
                case measure => (simp [intOf]; try omega)
              · go_wp2_with fail
                go_round
                case rel =>
                  refine ⟨Q2 + m, R2 - 65536 * m, k, rfl, rfl, rfl, by omega, by omega, by omega, by omega, by omega, Lib.hid ?_⟩
                  have h1 := hst'.out
                  have h2 := hQ2'.out
                  have h3 := hR2'.out
                  rw [h1.1, h1.2]
                  constructor <;> omega
                case measure => (simp [intOf]; try omega)
          · go_wp2_with fail

            obtain ⟨Q2, hQ2⟩ : ∃ Q2, 2 * Q + aq = Q2 := ⟨_, rfl⟩
            obtain ⟨R2, hR2⟩ : ∃ R2, 2 * R + ar = R2 := ⟨_, rfl⟩
            rw [hQ2, hR2]
            have hQ2' := Lib.hid hQ2
            have hR2' := Lib.hid hR2
            have b1 : -4611826018427387904 ≤ Q2 := by omega
            have b2 : Q2 ≤ 4611826018427387904 := by omega
            have b3 : 0 ≤ R2 := by omega
            have b4 : R2 ≤ 196605 := by omega
            clear hQ2 hR2
            go_loop [10, 11, 13] (fun q r i => ∃ (m : Nat), q = .int .i64 (Q2 + m) ∧ r = .int .i64 (R2 - 65536 * m) ∧ i = .int .i64 m ∧ m ≤ 2 ∧ 65536 * (m : Int) ≤ R2) (fun _ _ i => 3 - (intOf i).toNat)
            case atStart => exact ⟨0, by simp, by simp, rfl, by omega, by omega⟩
            case round =>
              obtain ⟨m, rfl, rfl, rfl, hm, hmR⟩ := hrel
              have hm3 : decide ((m : Int) < 3) = true := by simp; omega
              by_cases hge : 65536 ≤ R2 - 65536 * m
              · go_wp2_with fail
                go_round
                case rel => exact ⟨m + 1, by go_num, by go_num, by go_num, by omega, by omega⟩
                case measure => (simp [intOf]; try omega)
              · go_wp2_with fail
                go_round
                case rel =>
                  refine ⟨Q2 + m, R2 - 65536 * m, k, rfl, rfl, rfl, by omega, by omega, by omega, by omega, by omega, Lib.hid ?_⟩
                  have h1 := hst'.out
                  have h2 := hQ2'.out
                  have h3 := hR2'.out
                  rw [h1.1, h1.2]
                  constructor <;> omega
                case measure => (simp [intOf]; try omega)

set_option maxRecDepth 100000 in
set_option maxHeartbeats 2000000 in
theorem refMul_neg (a0 b0 X a : Int) (n : Nat) (w : World) (ha : inB a0 = true) (hb : inB b0 = true) (e1 : -a0 = a) (e2 : -b0 = n) (e3 : b0 < 0) (hX : a0 * b0 / 65536 = X) :
    Calls Try.prog 17 #[.int .i64 a0, .int .i64 b0] w fun e w' => e = .returned (.tuple #[.int .i64 (inV X), .int .i64 (inE X)]) ∧ w = w' := by
  have hN : Hid (a * n / 65536 = X) := Lib.hid (by rw [← hX]; congr 1; rw [← e1, ← e2, Int.neg_mul_neg])
  have hA1 := inB_iff.1 ha
  have hB1 := inB_iff.1 hb
  obtain ⟨hA1, hA2⟩ := hA1
  obtain ⟨hB1, hB2⟩ := hB1
  have hn : Hid (n ≤ 4611686018427387904) := Lib.hid (by omega)
  obtain ⟨aq, haq⟩ : ∃ aq, a / 65536 = aq := ⟨_, rfl⟩
  obtain ⟨ar, har⟩ : ∃ ar, a % 65536 = ar := ⟨_, rfl⟩
  have hA : Hid (a / 65536 = aq ∧ a % 65536 = ar) := Lib.hid ⟨haq, har⟩
  have hD : Hid (∀ w, Calls Try.prog 25 #[.int .i64 a, .int .i64 65536] w fun e w' => e = .returned (.tuple #[.int .i64 aq, .int .i64 ar]) ∧ w = w') :=
    Lib.hid (fun w => by rw [← haq, ← har]; exact down_c a 65536 w (by omega) (by omega) (by omega) (by omega))
  have q1 : -70368744177665 ≤ aq := by omega
  have q2 : aq ≤ 70368744177665 := by omega
  have q3 : 0 ≤ ar := by omega
  have q4 : ar ≤ 65535 := by omega
  clear hX haq har
  go_enter Try.func17, Try.ntmps17
  go_wp2_with fail
  refine (may_c a0 _).mono ?_
  rintro e w' ⟨rfl, rfl⟩
  rw [ha]
  go_wp2_with fail
  refine (may_c b0 _).mono ?_
  rintro e w' ⟨rfl, rfl⟩
  rw [hb]
  go_wp2_with fail

  refine (hD.out _).mono ?_
  rintro e w' ⟨rfl, rfl⟩
  go_wp2_with fail
  go_loop [10, 11, 12] (fun q r i => ∃ (Q R : Int) (j : Nat), q = .int .i64 Q ∧ r = .int .i64 R ∧ i = .int .i64 ((j : Int) - 1) ∧ j ≤ 63 ∧ -4611827018427387904 ≤ Q ∧ Q ≤ 4611827018427387904 ∧ 0 ≤ R ∧ R ≤ 65535 ∧
      Hid (a * ((n / 2 ^ j : Nat) : Int) / 65536 = Q ∧ a * ((n / 2 ^ j : Nat) : Int) % 65536 = R)) (fun _ _ i => (intOf i + 1).toNat)
  case atStart =>
    refine ⟨0, 0, 63, rfl, rfl, rfl, by omega, by omega, by omega, by omega, by omega, Lib.hid ?_⟩
    rw [Nat.div_eq_of_lt (show n < 2 ^ 63 by have := hn.out; omega)]
    simp
  case round =>
    obtain ⟨Q, R, j, rfl, rfl, rfl, hj, hQ0, hQ1, hR0, hR1, hB⟩ := hrel
    cases j with
    | zero =>
      have hz : Q = a * n / 65536 := by have := hB.out.1; rw [Nat.pow_zero, Nat.div_one] at this; exact this.symm
      rw [hN.out] at hz
      have hz' := Lib.hid hz
      cases hin : inB Q
      · have HV := Lib.hid (show inV X = 0 from inV_no (hz ▸ hin))
        have HE := Lib.hid (show inE X = 10 from inE_no (hz ▸ hin))
        clear hz
        go_wp2_with fail
        refine (may_c Q _).mono ?_
        rintro e w' ⟨rfl, rfl⟩
        rw [hin]
        go_wp2_with fail
        go_ret2
        exact ⟨ret_ii HV.out.symm HE.out.symm, rfl⟩
      · have HV := Lib.hid (show inV X = Q from by rw [inV_of (hz ▸ hin), ← hz])
        have HE := Lib.hid (show inE X = 0 from inE_of (hz ▸ hin))
        clear hz
        go_wp2_with fail
        refine (may_c Q _).mono ?_
        rintro e w' ⟨rfl, rfl⟩
        rw [hin]
        go_wp2_with fail
        go_ret2
        exact ⟨ret_ii HV.out.symm HE.out.symm, rfl⟩
    | succ k =>
      rw [show ((k + 1 : Nat) : Int) - 1 = (k : Int) by omega]
      have hi0 : decide ((0 : Int) ≤ (k : Int)) = true := by simp
      have hover : (2305843009213693952 < Q ∨ Q < -2305843009213693952) → inB X = false := fun h => by
        have := mul_over a n (k + 1) (by omega) (by rw [hB.out.1]; exact h)
        rw [hN.out] at this; exact this
      by_cases h1 : 2305843009213693952 < Q
      · have hno := hover (.inl h1)
        have HV := Lib.hid (inV_no hno)
        have HE := Lib.hid (inE_no hno)
        clear hover hno
        go_wp2_with fail
        go_ret2
        exact ⟨ret_ii HV.out.symm HE.out.symm, rfl⟩
      · by_cases h2 : Q < -2305843009213693952
        · have hno := hover (.inr h2)
          have HV := Lib.hid (inV_no hno)
          have HE := Lib.hid (inE_no hno)
          clear hover hno
          go_wp2_with fail
          go_ret2
          exact ⟨ret_ii HV.out.symm HE.out.symm, rfl⟩
        · clear hover
          obtain ⟨c, hc⟩ : ∃ c, n / 2 ^ k % 2 = c := ⟨_, rfl⟩
          have hst := mul_step a n k Q R aq ar c hB.out.1 hB.out.2 hA.out.1 hA.out.2 hc
          have hst' := Lib.hid hst
          have hc2 : c < 2 := by rw [← hc]; exact Nat.mod_lt _ (by omega)
          have eb : (n : Int) / 2 ^ k = ((n / 2 ^ k : Nat) : Int) := by rw [show (2 : Int) ^ k = ((2 ^ k : Nat) : Int) by simp, ← Int.natCast_ediv]
          obtain ⟨y, hy⟩ : ∃ y, n / 2 ^ k = y := ⟨_, rfl⟩
          have hyn : y ≤ n := by rw [← hy]; exact Nat.div_le_self _ _
          have hyn2 : y ≤ 4611686018427387904 := by have := hn.out; omega
          rw [hy] at eb
          rw [hy] at hc
          have ec : bits .and .i64 (y : Int) 1 = (c : Int) := by rw [bit_lit _ (by omega) (by omega)]; omega
          have ec2 : (y : Int) % 2 = (c : Int) := by omega
          clear hst hc hy hyn
          rcases (by omega : c = 0 ∨ c = 1) with rfl | rfl
          · go_wp2_with fail

            obtain ⟨Q2, hQ2⟩ : ∃ Q2, 2 * Q = Q2 := ⟨_, rfl⟩
            obtain ⟨R2, hR2⟩ : ∃ R2, 2 * R = R2 := ⟨_, rfl⟩
            rw [hQ2, hR2]
            have hQ2' := Lib.hid hQ2
            have hR2' := Lib.hid hR2
            have b1 : -4611826018427387904 ≤ Q2 := by omega
            have b2 : Q2 ≤ 4611826018427387904 := by omega
            have b3 : 0 ≤ R2 := by omega
            have b4 : R2 ≤ 196605 := by omega
            clear hQ2 hR2
            go_loop [10, 11, 13] (fun q r i => ∃ (m : Nat), q = .int .i64 (Q2 + m) ∧ r = .int .i64 (R2 - 65536 * m) ∧ i = .int .i64 m ∧ m ≤ 2 ∧ 65536 * (m : Int) ≤ R2) (fun _ _ i => 3 - (intOf i).toNat)
            case atStart => exact ⟨0, by simp, by simp, rfl, by omega, by omega⟩
            case round =>
              obtain ⟨m, rfl, rfl, rfl, hm, hmR⟩ := hrel
              have hm3 : decide ((m : Int) < 3) = true := by simp; omega
              by_cases hge : 65536 ≤ R2 - 65536 * m
              · go_wp2_with fail
                go_round
                case rel => exact ⟨m + 1, by go_num, by go_num, by go_num, by omega, by omega⟩
                case measure => (simp [intOf]; try omega)
              · go_wp2_with fail
                go_round
                case rel =>
                  refine ⟨Q2 + m, R2 - 65536 * m, k, rfl, rfl, rfl, by omega, by omega, by omega, by omega, by omega, Lib.hid ?_⟩
                  have h1 := hst'.out
                  have h2 := hQ2'.out
                  have h3 := hR2'.out
                  rw [h1.1, h1.2]
                  constructor <;> omega
                case measure => (simp [intOf]; try omega)
          · go_wp2_with fail

            obtain ⟨Q2, hQ2⟩ : ∃ Q2, 2 * Q + aq = Q2 := ⟨_, rfl⟩
            obtain ⟨R2, hR2⟩ : ∃ R2, 2 * R + ar = R2 := ⟨_, rfl⟩
            rw [hQ2, hR2]
            have hQ2' := Lib.hid hQ2
            have hR2' := Lib.hid hR2
            have b1 : -4611826018427387904 ≤ Q2 := by omega
            have b2 : Q2 ≤ 4611826018427387904 := by omega
            have b3 : 0 ≤ R2 := by omega
            have b4 : R2 ≤ 196605 := by omega
            clear hQ2 hR2
            go_loop [10, 11, 13] (fun q r i => ∃ (m : Nat), q = .int .i64 (Q2 + m) ∧ r = .int .i64 (R2 - 65536 * m) ∧ i = .int .i64 m ∧ m ≤ 2 ∧ 65536 * (m : Int) ≤ R2) (fun _ _ i => 3 - (intOf i).toNat)
            case atStart => exact ⟨0, by simp, by simp, rfl, by omega, by omega⟩
            case round =>
              obtain ⟨m, rfl, rfl, rfl, hm, hmR⟩ := hrel
              have hm3 : decide ((m : Int) < 3) = true := by simp; omega
              by_cases hge : 65536 ≤ R2 - 65536 * m
              · go_wp2_with fail
                go_round
                case rel => exact ⟨m + 1, by go_num, by go_num, by go_num, by omega, by omega⟩
                case measure => (simp [intOf]; try omega)
              · go_wp2_with fail
                go_round
                case rel =>
                  refine ⟨Q2 + m, R2 - 65536 * m, k, rfl, rfl, rfl, by omega, by omega, by omega, by omega, by omega, Lib.hid ?_⟩
                  have h1 := hst'.out
                  have h2 := hQ2'.out
                  have h3 := hR2'.out
                  rw [h1.1, h1.2]
                  constructor <;> omega
                case measure => (simp [intOf]; try omega)

theorem mulV_no {a b : Int} (h : (inB a && inB b) = false) : mulV a b = 0 ∧ mulE a b = 10 := by simp only [mulV, mulE, h]; exact ⟨rfl, rfl⟩
theorem mulV_of {a b : Int} (h : (inB a && inB b) = true) : mulV a b = inV (a * b / 65536) ∧ mulE a b = inE (a * b / 65536) := by simp only [mulV, mulE, h]; exact ⟨rfl, rfl⟩

theorem refMul_c (a b : Int) (w : World) :
    Calls Try.prog 17 #[.int .i64 a, .int .i64 b] w fun e w' => e = .returned (.tuple #[.int .i64 (mulV a b), .int .i64 (mulE a b)]) ∧ w = w' := by
  cases ha : inB a
  · obtain ⟨h1, h2⟩ := mulV_no (a := a) (b := b) (by rw [ha]; rfl)
    rw [h1, h2]
    clear h1 h2
    go_enter Try.func17, Try.ntmps17
    go_wp2_with fail
    refine (may_c a _).mono ?_
    rintro e w' ⟨rfl, rfl⟩
    rw [ha]
    go_wp2_with fail
    refine (may_c b _).mono ?_
    rintro e w' ⟨rfl, rfl⟩
    go_wp2_with fail
    go_ret2
    exact ⟨rfl, rfl⟩
  · cases hb : inB b
    · obtain ⟨h1, h2⟩ := mulV_no (a := a) (b := b) (by rw [ha, hb]; rfl)
      rw [h1, h2]
      clear h1 h2
      go_enter Try.func17, Try.ntmps17
      go_wp2_with fail
      refine (may_c a _).mono ?_
      rintro e w' ⟨rfl, rfl⟩
      rw [ha]
      go_wp2_with fail
      refine (may_c b _).mono ?_
      rintro e w' ⟨rfl, rfl⟩
      rw [hb]
      go_wp2_with fail
      go_ret2
      exact ⟨rfl, rfl⟩
    · obtain ⟨h1, h2⟩ := mulV_of (a := a) (b := b) (by rw [ha, hb]; rfl)
      rw [h1, h2]
      by_cases hn : b < 0
      · exact refMul_neg a b _ (-a) (-b).toNat w ha hb rfl (by omega) hn rfl
      · exact refMul_pos a b _ a b.toNat w ha hb rfl (by omega) rfl

set_option maxRecDepth 100000 in
set_option maxHeartbeats 2000000 in
theorem refDiv_pos (a0 b0 X a b : Int) (w : World) (ha : inB a0 = true) (hb : inB b0 = true) (e1 : a = a0) (e2 : b = b0) (hb0 : 1 ≤ b) (hX : a * 65536 / b = X) :
    Calls Try.prog 19 #[.int .i64 a0, .int .i64 b0] w fun e w' => e = .returned (.tuple #[.int .i64 (inV X), .int .i64 (inE X)]) ∧ w = w' := by
  have hN : Hid (a * 65536 / b = X) := Lib.hid hX
  have hA1 := inB_iff.1 ha
  have hB1 := inB_iff.1 hb
  obtain ⟨hA1, hA2⟩ := hA1
  obtain ⟨hB1, hB2⟩ := hB1
  obtain ⟨aq, haq⟩ : ∃ aq, a / b = aq := ⟨_, rfl⟩
  obtain ⟨ar, har⟩ : ∃ ar, a % b = ar := ⟨_, rfl⟩
  have hA : Hid (a / b = aq ∧ a % b = ar) := Lib.hid ⟨haq, har⟩
  have hD : Hid (∀ w, Calls Try.prog 25 #[.int .i64 a, .int .i64 b] w fun e w' => e = .returned (.tuple #[.int .i64 aq, .int .i64 ar]) ∧ w = w') :=
    Lib.hid (fun w => by rw [← haq, ← har]; exact down_c a b w (by omega) (by omega) (by omega) (by omega))
  have q1 : -4611686018427387905 ≤ aq := by
    rw [← haq]
    refine (Int.le_ediv_iff_mul_le (by omega)).2 ?_
    have := Int.mul_le_mul_of_nonneg_left hb0 (show (0 : Int) ≤ 4611686018427387905 by omega)
    omega
  have q2 : aq ≤ 4611686018427387905 := by
    rw [← haq]
    have : a / b < 4611686018427387905 := (Int.ediv_lt_iff_lt_mul (by omega)).2 (by
      have := Int.mul_le_mul_of_nonneg_left hb0 (show (0 : Int) ≤ 4611686018427387905 by omega)
      omega)
    omega
  have q3 : 0 ≤ ar := by rw [← har]; exact Int.emod_nonneg _ (by omega)
  have q4 : ar < b := by rw [← har]; exact Int.emod_lt_of_pos _ (by omega)
  have hb00 : (b0 == 0) = false := by simp; omega
  clear hX haq har
  subst e1; subst e2
  go_enter Try.func19, Try.ntmps19
  go_wp2_with fail
  refine (may_c a _).mono ?_
  rintro e w' ⟨rfl, rfl⟩
  rw [ha]
  go_wp2_with fail
  refine (may_c b _).mono ?_
  rintro e w' ⟨rfl, rfl⟩
  rw [hb]
  go_wp2_with fail

  refine (hD.out _).mono ?_
  rintro e w' ⟨rfl, rfl⟩
  go_wp2_with fail
  go_loop [8, 9, 10] (fun q r i => ∃ (Q R : Int) (k : Nat), q = .int .i64 Q ∧ r = .int .i64 R ∧ i = .int .i64 (k : Int) ∧ k ≤ 16 ∧ -4611686018427387905 ≤ Q ∧ Q ≤ 4611686018427387905 ∧ 0 ≤ R ∧ R < b ∧
      Hid (a * ((2 ^ k : Nat) : Int) / b = Q ∧ a * ((2 ^ k : Nat) : Int) % b = R)) (fun _ _ i => 16 - (intOf i).toNat)
  case atStart =>
    exact ⟨aq, ar, 0, rfl, rfl, rfl, by omega, by omega, by omega, by omega, by omega, Lib.hid (by simpa using hA.out)⟩
  case round =>
    obtain ⟨Q, R, k, rfl, rfl, rfl, hk, hQ0, hQ1, hR0, hR1, hB⟩ := hrel
    by_cases hk16 : k = 16
    · subst hk16
      have hz : Q = a * 65536 / b := hB.out.1.symm
      rw [hN.out] at hz
      have hz' := Lib.hid hz
      cases hin : inB Q
      · have HV := Lib.hid (show inV X = 0 from inV_no (hz ▸ hin))
        have HE := Lib.hid (show inE X = 10 from inE_no (hz ▸ hin))
        clear hz
        go_wp2_with fail
        refine (may_c Q _).mono ?_
        rintro e w' ⟨rfl, rfl⟩
        rw [hin]
        go_wp2_with fail
        go_ret2
        exact ⟨ret_ii HV.out.symm HE.out.symm, rfl⟩
      · have HV := Lib.hid (show inV X = Q from by rw [inV_of (hz ▸ hin), ← hz])
        have HE := Lib.hid (show inE X = 0 from inE_of (hz ▸ hin))
        clear hz
        go_wp2_with fail
        refine (may_c Q _).mono ?_
        rintro e w' ⟨rfl, rfl⟩
        rw [hin]
        go_wp2_with fail
        go_ret2
        exact ⟨ret_ii HV.out.symm HE.out.symm, rfl⟩
    · have hk2 : k < 16 := by omega
      have hover : (2305843009213693952 < Q ∨ Q < -2305843009213693952) → inB X = false := fun h => by
        have hm : (2 : Int) ≤ ((2 ^ (16 - k) : Nat) : Int) := by have := two_le_pow (16 - k) (by omega); omega
        have := div_over (a * ((2 ^ k : Nat) : Int)) b ((2 ^ (16 - k) : Nat) : Int) (by omega) hm (by rw [hB.out.1]; exact h)
        rw [Int.mul_assoc, ← Int.natCast_mul, ← Nat.pow_add, show k + (16 - k) = 16 by omega] at this
        have e := hN.out
        rw [show ((2 ^ 16 : Nat) : Int) = 65536 from rfl, e] at this
        exact this
      by_cases h1 : 2305843009213693952 < Q
      · have hno := hover (.inl h1)
        have HV := Lib.hid (inV_no hno)
        have HE := Lib.hid (inE_no hno)
        clear hover hno
        go_wp2_with fail
        go_ret2
        exact ⟨ret_ii HV.out.symm HE.out.symm, rfl⟩
      · by_cases h2 : Q < -2305843009213693952
        · have hno := hover (.inr h2)
          have HV := Lib.hid (inV_no hno)
          have HE := Lib.hid (inE_no hno)
          clear hover hno
          go_wp2_with fail
          go_ret2
          exact ⟨ret_ii HV.out.symm HE.out.symm, rfl⟩
        · clear hover
          have hst := div_next (a * ((2 ^ k : Nat) : Int)) b Q R (by omega) hB.out.1 hB.out.2
          rw [show 2 * (a * ((2 ^ k : Nat) : Int)) = a * ((2 ^ (k + 1) : Nat) : Int) by rw [Nat.pow_succ, Int.natCast_mul, Int.mul_comm 2, Int.mul_assoc]; rfl] at hst
          have hst' := Lib.hid hst
          clear hst
          by_cases hc : b - R ≤ R
          · have hs := Lib.hid (hst'.out.1 hc)
            go_wp2_with fail
            go_round
            case rel => exact ⟨2 * Q + 1, R - (b - R), k + 1, rfl, rfl, by go_num, by omega, by omega, by omega, by omega, by omega, hs⟩
            case measure => (simp [intOf]; try omega)
          · have hs := Lib.hid (hst'.out.2 hc)
            go_wp2_with fail
            go_round
            case rel => exact ⟨2 * Q, R + R, k + 1, rfl, rfl, by go_num, by omega, by omega, by omega, by omega, by omega, hs⟩
            case measure => (simp [intOf]; try omega)

set_option maxRecDepth 100000 in
set_option maxHeartbeats 2000000 in
theorem refDiv_neg (a0 b0 X a b : Int) (w : World) (ha : inB a0 = true) (hb : inB b0 = true) (e1 : -a0 = a) (e2 : -b0 = b) (e3 : b0 < 0) (hb0 : 1 ≤ b) (hX : a * 65536 / b = X) :
    Calls Try.prog 19 #[.int .i64 a0, .int .i64 b0] w fun e w' => e = .returned (.tuple #[.int .i64 (inV X), .int .i64 (inE X)]) ∧ w = w' := by
  have hN : Hid (a * 65536 / b = X) := Lib.hid hX
  have hA1 := inB_iff.1 ha
  have hB1 := inB_iff.1 hb
  obtain ⟨hA1, hA2⟩ := hA1
  obtain ⟨hB1, hB2⟩ := hB1
  obtain ⟨aq, haq⟩ : ∃ aq, a / b = aq := ⟨_, rfl⟩
  obtain ⟨ar, har⟩ : ∃ ar, a % b = ar := ⟨_, rfl⟩
  have hA : Hid (a / b = aq ∧ a % b = ar) := Lib.hid ⟨haq, har⟩
  have hD : Hid (∀ w, Calls Try.prog 25 #[.int .i64 a, .int .i64 b] w fun e w' => e = .returned (.tuple #[.int .i64 aq, .int .i64 ar]) ∧ w = w') :=
    Lib.hid (fun w => by rw [← haq, ← har]; exact down_c a b w (by omega) (by omega) (by omega) (by omega))
  have q1 : -4611686018427387905 ≤ aq := by
    rw [← haq]
    refine (Int.le_ediv_iff_mul_le (by omega)).2 ?_
    have := Int.mul_le_mul_of_nonneg_left hb0 (show (0 : Int) ≤ 4611686018427387905 by omega)
    omega
  have q2 : aq ≤ 4611686018427387905 := by
    rw [← haq]
    have : a / b < 4611686018427387905 := (Int.ediv_lt_iff_lt_mul (by omega)).2 (by
      have := Int.mul_le_mul_of_nonneg_left hb0 (show (0 : Int) ≤ 4611686018427387905 by omega)
      omega)
    omega
  have q3 : 0 ≤ ar := by rw [← har]; exact Int.emod_nonneg _ (by omega)
  have q4 : ar < b := by rw [← har]; exact Int.emod_lt_of_pos _ (by omega)
  have hb00 : (b0 == 0) = false := by simp; omega
  clear hX haq har
  go_enter Try.func19, Try.ntmps19
  go_wp2_with fail
  refine (may_c a0 _).mono ?_
  rintro e w' ⟨rfl, rfl⟩
  rw [ha]
  go_wp2_with fail
  refine (may_c b0 _).mono ?_
  rintro e w' ⟨rfl, rfl⟩
  rw [hb]
  go_wp2_with fail

  refine (hD.out _).mono ?_
  rintro e w' ⟨rfl, rfl⟩
  go_wp2_with fail
  go_loop [8, 9, 10] (fun q r i => ∃ (Q R : Int) (k : Nat), q = .int .i64 Q ∧ r = .int .i64 R ∧ i = .int .i64 (k : Int) ∧ k ≤ 16 ∧ -4611686018427387905 ≤ Q ∧ Q ≤ 4611686018427387905 ∧ 0 ≤ R ∧ R < b ∧
      Hid (a * ((2 ^ k : Nat) : Int) / b = Q ∧ a * ((2 ^ k : Nat) : Int) % b = R)) (fun _ _ i => 16 - (intOf i).toNat)
  case atStart =>
    exact ⟨aq, ar, 0, rfl, rfl, rfl, by omega, by omega, by omega, by omega, by omega, Lib.hid (by simpa using hA.out)⟩
  case round =>
    obtain ⟨Q, R, k, rfl, rfl, rfl, hk, hQ0, hQ1, hR0, hR1, hB⟩ := hrel
    by_cases hk16 : k = 16
    · subst hk16
      have hz : Q = a * 65536 / b := hB.out.1.symm
      rw [hN.out] at hz
      have hz' := Lib.hid hz
      cases hin : inB Q
      · have HV := Lib.hid (show inV X = 0 from inV_no (hz ▸ hin))
        have HE := Lib.hid (show inE X = 10 from inE_no (hz ▸ hin))
        clear hz
        go_wp2_with fail
        refine (may_c Q _).mono ?_
        rintro e w' ⟨rfl, rfl⟩
        rw [hin]
        go_wp2_with fail
        go_ret2
        exact ⟨ret_ii HV.out.symm HE.out.symm, rfl⟩
      · have HV := Lib.hid (show inV X = Q from by rw [inV_of (hz ▸ hin), ← hz])
        have HE := Lib.hid (show inE X = 0 from inE_of (hz ▸ hin))
        clear hz
        go_wp2_with fail
        refine (may_c Q _).mono ?_
        rintro e w' ⟨rfl, rfl⟩
        rw [hin]
        go_wp2_with fail
        go_ret2
        exact ⟨ret_ii HV.out.symm HE.out.symm, rfl⟩
    · have hk2 : k < 16 := by omega
      have hover : (2305843009213693952 < Q ∨ Q < -2305843009213693952) → inB X = false := fun h => by
        have hm : (2 : Int) ≤ ((2 ^ (16 - k) : Nat) : Int) := by have := two_le_pow (16 - k) (by omega); omega
        have := div_over (a * ((2 ^ k : Nat) : Int)) b ((2 ^ (16 - k) : Nat) : Int) (by omega) hm (by rw [hB.out.1]; exact h)
        rw [Int.mul_assoc, ← Int.natCast_mul, ← Nat.pow_add, show k + (16 - k) = 16 by omega] at this
        have e := hN.out
        rw [show ((2 ^ 16 : Nat) : Int) = 65536 from rfl, e] at this
        exact this
      by_cases h1 : 2305843009213693952 < Q
      · have hno := hover (.inl h1)
        have HV := Lib.hid (inV_no hno)
        have HE := Lib.hid (inE_no hno)
        clear hover hno
        go_wp2_with fail
        go_ret2
        exact ⟨ret_ii HV.out.symm HE.out.symm, rfl⟩
      · by_cases h2 : Q < -2305843009213693952
        · have hno := hover (.inr h2)
          have HV := Lib.hid (inV_no hno)
          have HE := Lib.hid (inE_no hno)
          clear hover hno
          go_wp2_with fail
          go_ret2
          exact ⟨ret_ii HV.out.symm HE.out.symm, rfl⟩
        · clear hover
          have hst := div_next (a * ((2 ^ k : Nat) : Int)) b Q R (by omega) hB.out.1 hB.out.2
          rw [show 2 * (a * ((2 ^ k : Nat) : Int)) = a * ((2 ^ (k + 1) : Nat) : Int) by rw [Nat.pow_succ, Int.natCast_mul, Int.mul_comm 2, Int.mul_assoc]; rfl] at hst
          have hst' := Lib.hid hst
          clear hst
          by_cases hc : b - R ≤ R
          · have hs := Lib.hid (hst'.out.1 hc)
            go_wp2_with fail
            go_round
            case rel => exact ⟨2 * Q + 1, R - (b - R), k + 1, rfl, rfl, by go_num, by omega, by omega, by omega, by omega, by omega, hs⟩
            case measure => (simp [intOf]; try omega)
          · have hs := Lib.hid (hst'.out.2 hc)
            go_wp2_with fail
            go_round
            case rel => exact ⟨2 * Q, R + R, k + 1, rfl, rfl, by go_num, by omega, by omega, by omega, by omega, by omega, hs⟩
            case measure => (simp [intOf]; try omega)

theorem divV_z (a : Int) : divV a 0 = 0 ∧ divE a 0 = 11 := ⟨rfl, rfl⟩
theorem divV_no {a b : Int} (h0 : b ≠ 0) (h : (inB a && inB b) = false) : divV a b = 0 ∧ divE a b = 10 := by simp only [divV, divE, h, if_neg h0]; exact ⟨rfl, rfl⟩
theorem divV_of {a b : Int} (h0 : b ≠ 0) (h : (inB a && inB b) = true) : divV a b = inV (divQ a b) ∧ divE a b = inE (divQ a b) := by simp only [divV, divE, h, if_neg h0]; exact ⟨rfl, rfl⟩

theorem refDiv_c (a b : Int) (w : World) :
    Calls Try.prog 19 #[.int .i64 a, .int .i64 b] w fun e w' => e = .returned (.tuple #[.int .i64 (divV a b), .int .i64 (divE a b)]) ∧ w = w' := by
  by_cases h0 : b = 0
  · subst h0
    obtain ⟨h1, h2⟩ := divV_z a
    rw [h1, h2]
    clear h1 h2
    go_enter Try.func19, Try.ntmps19
    go_wp2_with fail
    go_ret2
    exact ⟨rfl, rfl⟩
  · have hb00 : (b == 0) = false := by simp; omega
    cases ha : inB a
    · obtain ⟨h1, h2⟩ := divV_no (a := a) (b := b) h0 (by rw [ha]; rfl)
      rw [h1, h2]
      clear h1 h2 h0
      go_enter Try.func19, Try.ntmps19
      go_wp2_with fail
      refine (may_c a _).mono ?_
      rintro e w' ⟨rfl, rfl⟩
      rw [ha]
      go_wp2_with fail
      refine (may_c b _).mono ?_
      rintro e w' ⟨rfl, rfl⟩
      go_wp2_with fail
      go_ret2
      exact ⟨rfl, rfl⟩
    · cases hb : inB b
      · obtain ⟨h1, h2⟩ := divV_no (a := a) (b := b) h0 (by rw [ha, hb]; rfl)
        rw [h1, h2]
        clear h1 h2 h0
        go_enter Try.func19, Try.ntmps19
        go_wp2_with fail
        refine (may_c a _).mono ?_
        rintro e w' ⟨rfl, rfl⟩
        rw [ha]
        go_wp2_with fail
        refine (may_c b _).mono ?_
        rintro e w' ⟨rfl, rfl⟩
        rw [hb]
        go_wp2_with fail
        go_ret2
        exact ⟨rfl, rfl⟩
      · obtain ⟨h1, h2⟩ := divV_of (a := a) (b := b) h0 (by rw [ha, hb]; rfl)
        rw [h1, h2]
        by_cases hn : b < 0
        · exact refDiv_neg a b _ (-a) (-b) w ha hb rfl rfl hn (by omega) (by simp only [divQ, if_pos hn])
        · exact refDiv_pos a b _ a b w ha hb rfl rfl (by omega) (by simp only [divQ, if_neg hn])

theorem div_c (a b : Int) (w : World) (a0 : -9223372036854775808 ≤ a) (a1 : a ≤ 9223372036854775807) (b0 : -9223372036854775808 ≤ b) (b1 : b ≤ 9223372036854775807) :
    Calls Try.prog 18 #[.int .i64 a, .int .i64 b] w fun e w' => e = .returned (.tuple #[.int .i64 (divV a b), .int .i64 (divE a b)]) ∧ Kp no w w' := by
  by_cases h0 : b = 0
  · subst h0
    obtain ⟨h1, h2⟩ := divV_z a
    rw [h1, h2]
    clear h1 h2
    go_enter Try.func18, Try.ntmps18
    go_wp2_with fail
    go_ret2
    exact ⟨rfl, Kp.refl _ _⟩
  · have hb00 : (b == 0) = false := by simp; omega
    cases hab : (inB a && inB b)
    · obtain ⟨hv, he⟩ := divV_no h0 hab
      rw [hv, he]
      clear hv he h0
      go_enter Try.func18, Try.ntmps18
      go_wp2_with fail
      refine (within2 _ a b _ (by simp [go_sem]) (by simp [go_sem]) false hab).mono ?_
      rintro e w' ⟨rfl, rfl⟩
      go_wp2_with fail
      go_ret2
      exact ⟨rfl, (Kp.refl _ _).alloc _⟩
    · obtain ⟨hv, he⟩ := divV_of h0 hab
      rw [hv, he, ← sq_div a b]
      have hA : a.natAbs < 18446744073709551616 := by omega
      have hA2 : a.natAbs ≤ 4611686018427387904 := by
        have h1 := hab
        rw [Bool.and_eq_true, inB_iff, inB_iff] at h1
        omega
      have hB : b.natAbs < 18446744073709551616 := by omega
      have hB0 : 0 < b.natAbs := by omega
      have sA := Lib.hid (fun w => size_c a w a0 a1)
      have sB := Lib.hid (fun w => size_c b w b0 b1)
      generalize a.natAbs = x at *
      generalize b.natAbs = y at *
      generalize hda : decide (a < 0) = da at *
      generalize hdb : decide (b < 0) = db at *
      obtain ⟨hi, hhi⟩ : ∃ hi, x / 281474976710656 = hi := ⟨_, rfl⟩
      obtain ⟨lo, hlo⟩ : ∃ lo, x * 65536 % 18446744073709551616 = lo := ⟨_, rfl⟩
      have hN : hi * 18446744073709551616 + lo = x * 65536 := by omega
      have hl : lo < 18446744073709551616 := by omega
      have e1 : (x : Int) / 281474976710656 = (hi : Int) := by omega
      have e2 : IntKind.u64.wrap ((x : Int) * 65536) = (lo : Int) := by rw [IntKind.wrap_u64]; omega
      have e3 : (x : Int) * 65536 % 18446744073709551616 = (lo : Int) := by omega
      clear hhi hlo
      obtain ⟨N, hNN⟩ : ∃ N, x * 65536 = N := ⟨_, rfl⟩
      rw [hNN] at hN ⊢
      clear hNN
      have hQ := Lib.hid (fun w => quot_c hi lo y N (da != db) w hN hl hB0 hB)
      clear hN hl hA hB hv he hda hdb h0
      go_enter Try.func18, Try.ntmps18
      go_wp2_with fail
      refine (within2 _ a b _ (by simp [go_sem]) (by simp [go_sem]) true hab).mono ?_
      rintro e w' ⟨rfl, rfl⟩
      go_wp2_with fail
      refine (sA.out _).mono ?_
      rintro e w' ⟨rfl, rfl⟩
      go_wp2_with fail
      refine (sB.out _).mono ?_
      rintro e w' ⟨rfl, rfl⟩
      go_wp2_with fail
      refine (hQ.out _).mono ?_
      rintro e w' ⟨rfl, hk⟩
      go_wp2_with fail
      go_ret2
      exact ⟨rfl, ((Kp.refl _ _).alloc _).trans hk⟩
end Go.Proofs.Ytpjapjddfldniaa
