/- The walks of swap's inner functions: Check, rounds, Rounds, may, q, held, Held. -/
import Derived.Test.YtamhlmfcnnomgaaRows
import Derived.Test.YtamhlmfcnnomgaaModel
import Derived.Outline
import Derived.RegionTactic
import Derived.ChangeAlike
import Derived.Laws.Rows
namespace Go.Proofs.Ytamhlmfcnnomgaa
open Go.RowKit

def ckE (mode p s : Int) : Int := if okP mode p s then 0 else 260
theorem ckE_ok {mode p s : Int} (h : okP mode p s) : ckE mode p s = 0 := if_pos h
theorem ckE_no {mode p s : Int} (h : ¬ okP mode p s) : ckE mode p s = 260 := if_neg h

theorem check_c (mode p s : Int) (w : World) : Calls Try.prog 14 #[.int .i64 mode, .int .i64 p, .int .i64 s] w fun e w' =>
    e = .returned (.int .i64 (ckE mode p s)) ∧ w = w' := by
  go_enter Try.func14, Try.ntmps14
  go_wp2
  all_goals (go_ret; exact ⟨ret_i (by first | exact (ckE_ok (by unfold okP; omega)).symm | exact (ckE_no (by unfold okP; omega)).symm), rfl⟩)

theorem len_p (p : Nat) (w : World) (h0 : 1 ≤ p) (h1 : p ≤ 64) : Calls Try.prog 33 #[.int .u64 (p : Int)] w fun e w' => e = .returned (.int .i64 ((Nat.log2 p : Nat) + 1 : Int)) ∧ w = w' := by
  refine (len_c (p : Int) w (by omega) (by omega)).mono ?_
  rintro e w' ⟨rfl, rfl⟩
  rw [Int.toNat_natCast, bitLen_log p h0 (by omega)]
  exact ⟨rfl, rfl⟩

theorem rounds_c (mode p : Nat) (s : Int) (w : World) (h0 : 1 ≤ p) (h1 : p ≤ 64) : Calls Try.prog 26 #[.agg #[.int .i64 mode, .int .i64 p, .int .i64 s]] w fun e w' =>
    e = .returned (.int .i64 (roundsOf mode p)) ∧ Kp no w w' := by
  by_cases hm : mode = 2
  · subst hm
    go_enter Try.func26, Try.ntmps26
    go_wp2_with fail
    go_ret
    exact ⟨ret_i (by simp [roundsOf]), (Kp.refl _ _).alloc _⟩
  · have hmb : ((mode : Int) == 2) = false := by simp; omega
    have hl := Lib.hid (fun w => len_p p w h0 h1)
    have hr := Lib.hid (show ((Nat.log2 p : Nat) + 1 : Int) = (roundsOf mode p : Int) by simp [roundsOf, hm])
    clear hm
    go_enter Try.func26, Try.ntmps26
    go_wp2_with fail
    refine (hl.out _).mono ?_
    rintro e w' ⟨rfl, rfl⟩
    go_wp2_with fail
    go_ret
    exact ⟨ret_i hr.out, (Kp.refl _ _).alloc _⟩

theorem q_c (mode s : Int) (p : Nat) (w : World) (h0 : 1 ≤ p) (h1 : p ≤ 64) : Calls Try.prog 35 #[.agg #[.int .i64 mode, .int .i64 p, .int .i64 s]] w fun e w' =>
    e = .returned (.int .i64 (qOf p)) ∧ Kp no w w' := by
  have hl := Lib.hid (fun w => len_p p w h0 h1)
  have h6 := log_le h0 h1
  have hq : Hid (wrap64 ((2 : Int) ^ (Nat.log2 p)) = (qOf p : Int)) := Lib.hid (by
    have h1 := qOf_le h0
    have e : ((2 : Int) ^ (Nat.log2 p)) = ((qOf p : Nat) : Int) := by simp [qOf]
    rw [e]; unfold wrap64; omega)
  generalize Nat.log2 p = L at *
  go_enter Try.func35, Try.ntmps35
  go_wp2_with fail
  refine (hl.out _).mono ?_
  rintro e w' ⟨rfl, rfl⟩
  go_wp2_with fail
  rw [hq.out]
  go_ret
  exact ⟨rfl, (Kp.refl _ _).alloc _⟩

theorem Rounds_c (mode p : Int) (w : World) : Calls Try.prog 13 #[.int .i64 mode, .int .i64 p] w fun e w' =>
    e = .returned (.int .i64 (if okP mode p 0 then (roundsOf mode.toNat p.toNat : Int) else 0)) ∧ Kp no w w' := by
  by_cases h : okP mode p 0
  · rw [if_pos h]
    have hc := Lib.hid (fun w => check_c mode p 0 w)
    rw [ckE_ok h] at hc
    obtain ⟨hm, h1, h2, _⟩ := h
    obtain ⟨m, rfl⟩ : ∃ m : Nat, mode = m := ⟨mode.toNat, by omega⟩
    obtain ⟨q, rfl⟩ : ∃ q : Nat, p = q := ⟨p.toNat, by omega⟩
    simp only [Int.toNat_natCast]
    have hr := Lib.hid (fun w => rounds_c m q 0 w (by omega) (by omega))
    clear hm
    go_enter Try.func13, Try.ntmps13
    go_wp2_with fail
    refine (hc.out _).mono ?_
    rintro e w' ⟨rfl, rfl⟩
    go_wp2_with fail
    refine (hr.out _).mono ?_
    rintro e w' ⟨rfl, hk⟩
    go_wp2_with fail
    go_ret
    exact ⟨rfl, hk⟩
  · rw [if_neg h]
    have hc := Lib.hid (fun w => check_c mode p 0 w)
    rw [ckE_no h] at hc
    clear h
    go_enter Try.func13, Try.ntmps13
    go_wp2_with fail
    refine (hc.out _).mono ?_
    rintro e w' ⟨rfl, rfl⟩
    go_wp2_with fail
    go_ret
    exact ⟨rfl, Kp.refl _ _⟩

/-- The error of a place and a round. -/
def mayE (mode p s place round most : Int) : Int := if okP mode p s then if place < 0 ∨ p ≤ place ∨ round < 0 ∨ most < round then 2 else 0 else 260
theorem may_ck {mode p s place round most : Int} (h : ¬ okP mode p s) : mayE mode p s place round most = 260 := if_neg h
theorem may_arg {mode p s place round most : Int} (h : okP mode p s) (h' : place < 0 ∨ p ≤ place ∨ round < 0 ∨ most < round) : mayE mode p s place round most = 2 := by rw [mayE, if_pos h, if_pos h']
theorem may_ok {mode p s place round most : Int} (h : okP mode p s) (h' : ¬ (place < 0 ∨ p ≤ place ∨ round < 0 ∨ most < round)) : mayE mode p s place round most = 0 := by rw [mayE, if_pos h, if_neg h']

theorem may_c (mode p s place round most : Int) (w : World) : Calls Try.prog 30 #[.agg #[.int .i64 mode, .int .i64 p, .int .i64 s], .int .i64 place, .int .i64 round, .int .i64 most] w fun e w' =>
    e = .returned (.int .i64 (mayE mode p s place round most)) ∧ Kp no w w' := by
  have hc := Lib.hid (fun w => check_c mode p s w)
  by_cases h : okP mode p s
  · rw [ckE_ok h] at hc
    by_cases h' : place < 0 ∨ p ≤ place ∨ round < 0 ∨ most < round
    · rw [may_arg h h']
      clear h
      go_enter Try.func30, Try.ntmps30
      go_wp2_with fail
      refine (hc.out _).mono ?_
      rintro e w' ⟨rfl, rfl⟩
      go_wp2_with fail
      all_goals (go_ret; exact ⟨rfl, (Kp.refl _ _).alloc _⟩)
    · rw [may_ok h h']
      have h1 : 0 ≤ place := by omega
      have h2 : place < p := by omega
      have h3 : 0 ≤ round := by omega
      have h4 : round ≤ most := by omega
      clear h h'
      go_enter Try.func30, Try.ntmps30
      go_wp2_with fail
      refine (hc.out _).mono ?_
      rintro e w' ⟨rfl, rfl⟩
      go_wp2_with fail
      go_ret
      exact ⟨rfl, (Kp.refl _ _).alloc _⟩
  · rw [ckE_no h] at hc
    rw [may_ck h]
    clear h
    go_enter Try.func30, Try.ntmps30
    go_wp2_with fail
    refine (hc.out _).mono ?_
    rintro e w' ⟨rfl, rfl⟩
    go_wp2_with fail
    go_ret
    exact ⟨rfl, (Kp.refl _ _).alloc _⟩
end Go.Proofs.Ytamhlmfcnnomgaa
