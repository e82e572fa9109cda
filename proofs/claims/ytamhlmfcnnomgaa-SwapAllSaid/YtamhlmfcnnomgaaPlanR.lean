/- mullionref26.May, Rounds. -/
import Derived.Test.YtamhlmfcnnomgaaFns
import Derived.Test.YtamhlmfcnnomgaaFrame
import Derived.Deep.DeepHandedRow
import Derived.Deep.LoopGhost
import Derived.BigQuiet
import Derived.IntWalk
namespace Go.Proofs.Ytamhlmfcnnomgaa
open Go.RowKit
set_option linter.unusedVariables false

set_option maxHeartbeats 4000000 in
theorem rmay_c (mode p s : Int) (w : World) : Calls Try.prog 15 #[.int .i64 mode, .int .i64 p, .int .i64 s] w fun e w' => e = .returned (.bool (decide (okP mode p s))) ∧ w = w' := by
  have hE : ∀ b : Bool, (b = true ↔ okP mode p s) → (Value.bool (decide (okP mode p s)) = .bool b) := fun b hb => by
    congr 1
    by_cases h : okP mode p s
    · rw [decide_eq_true h, hb.2 h]
    · rw [decide_eq_false h]
      cases b
      · rfl
      · exact absurd (hb.1 rfl) h
  unfold okP at hE
  by_cases a1 : mode = 1
  · subst a1
    by_cases a2 : 1 ≤ p
    · by_cases a3 : p ≤ 64
      · by_cases a4 : 0 ≤ s
        · go_enter Try.func15, Try.ntmps15
          go_wp2_with fail
          go_ret
          refine ⟨ret_b ?_, rfl⟩
          rw [Bool.eq_iff_iff, decide_eq_true_iff, decide_eq_true_iff]; unfold okP; omega
        · go_enter Try.func15, Try.ntmps15
          go_wp2_with fail
          go_ret
          refine ⟨ret_b ?_, rfl⟩
          symm; rw [decide_eq_false_iff_not]; unfold okP; omega
      · go_enter Try.func15, Try.ntmps15
        go_wp2_with fail
        go_ret
        refine ⟨ret_b ?_, rfl⟩
        symm; rw [decide_eq_false_iff_not]; unfold okP; omega
    · go_enter Try.func15, Try.ntmps15
      go_wp2_with fail
      go_ret
      refine ⟨ret_b ?_, rfl⟩
      symm; rw [decide_eq_false_iff_not]; unfold okP; omega
  · by_cases a0 : mode = 2
    · subst a0
      by_cases a2 : 1 ≤ p
      · by_cases a3 : p ≤ 64
        · by_cases a4 : 0 ≤ s
          · go_enter Try.func15, Try.ntmps15
            go_wp2_with fail
            go_ret
            refine ⟨ret_b ?_, rfl⟩
            rw [Bool.eq_iff_iff, decide_eq_true_iff, decide_eq_true_iff]; unfold okP; omega
          · go_enter Try.func15, Try.ntmps15
            go_wp2_with fail
            go_ret
            refine ⟨ret_b ?_, rfl⟩
            symm; rw [decide_eq_false_iff_not]; unfold okP; omega
        · go_enter Try.func15, Try.ntmps15
          go_wp2_with fail
          go_ret
          refine ⟨ret_b ?_, rfl⟩
          symm; rw [decide_eq_false_iff_not]; unfold okP; omega
      · go_enter Try.func15, Try.ntmps15
        go_wp2_with fail
        go_ret
        refine ⟨ret_b ?_, rfl⟩
        symm; rw [decide_eq_false_iff_not]; unfold okP; omega
    · have b1 : (mode == 1) = false := by simpa using a1
      have b2 : (mode == 2) = false := by simpa using a0
      go_enter Try.func15, Try.ntmps15
      go_wp2_with fail
      go_ret
      refine ⟨ret_b ?_, rfl⟩
      symm; rw [decide_eq_false_iff_not]; unfold okP; omega

theorem rrounds_no (mode p : Int) (w : World) (h : ¬ okP mode p 0) : Calls Try.prog 16 #[.int .i64 mode, .int .i64 p] w fun e w' => e = .returned (.int .i64 0) ∧ w = w' := by
  have hm := Lib.hid (fun w => rmay_c mode p 0 w)
  rw [decide_eq_false h] at hm
  clear h
  go_enter Try.func16, Try.ntmps16
  go_wp2_with fail
  refine (hm.out _).mono ?_
  rintro e w' ⟨rfl, rfl⟩
  go_wp2_with fail
  go_ret
  exact ⟨rfl, rfl⟩
theorem log2_lt_of {p t : Nat} (h0 : 1 ≤ p) (h : p < 2 ^ (t + 1)) (h1 : 2 ^ t ≤ p) : Nat.log2 p = t := by
  have a : Nat.log2 p < t + 1 := (Nat.log2_lt (by omega)).2 h
  have b : t ≤ Nat.log2 p := (Nat.le_log2 (by omega)).2 h1
  omega
set_option maxHeartbeats 4000000 in
theorem rrounds_c (mode p : Nat) (w : World) (hm : mode = 1 ∨ mode = 2) (h1 : 1 ≤ p) (h2 : p ≤ 64) : Calls Try.prog 16 #[.int .i64 mode, .int .i64 p] w fun e w' => e = .returned (.int .i64 (roundsOf mode p)) ∧ w = w' := by
  have hok : okP mode p 0 := ⟨by omega, by omega, by omega, by omega, by omega⟩
  have hmy := Lib.hid (fun w => rmay_c mode p 0 w)
  rw [decide_eq_true hok] at hmy
  clear hok
  rcases hm with rfl | rfl
  · have hend := Lib.hid (fun (t : Nat) (a : p < 2 ^ (t + 1)) (b : 2 ^ t ≤ p) => log2_lt_of h1 a b)
    obtain ⟨Q, hQ⟩ : ∃ Q, roundsOf 1 p = Q := ⟨_, rfl⟩
    have hQ' : Hid (Nat.log2 p + 1 = Q) := Lib.hid (by rw [← hQ]; simp [roundsOf])
    rw [hQ]
    clear hQ
    go_enter Try.func16, Try.ntmps16
    go_wp2_with fail
    refine (hmy.out _).mono ?_
    rintro e w' ⟨rfl, rfl⟩
    go_wp2_with fail
    go_loopw [6, 7] (fun n q wr => ∃ t q0 : Nat, n = .int .i64 ((t + 1 : Nat) : Int) ∧ q = .int .i64 (q0 : Int) ∧ q0 ≤ 128 ∧ t ≤ 6 ∧ Hid (q0 = 2 ^ (t + 1) ∧ 2 ^ t ≤ p) ∧ wr = w) (fun n q _ => 8 - (intOf n).toNat)
    case atStart => exact ⟨0, 2, rfl, rfl, by omega, by omega, Lib.hid ⟨rfl, by omega⟩, rfl⟩
    case round =>
      obtain ⟨t, q0, rfl, rfl, hq, ht, hh, rfl⟩ := hrel
      by_cases hle : q0 ≤ p
      · have ht6 : t < 6 := by
          have h3 := hh.out.1
          have : t = 6 ∨ t < 6 := by omega
          rcases this with rfl | h
          · have e : q0 = 128 := h3; omega
          · exact h
        go_wp2_with fail
        go_round
        case rel => exact ⟨t + 1, 2 * q0, by go_num, by go_num, by omega, by omega, Lib.hid ⟨by rw [hh.out.1, Nat.pow_succ 2 (t + 1)]; omega, by rw [← hh.out.1]; exact hle⟩, trivial⟩
        case measure => (simp [intOf]; try omega)
      · have e : Q = t + 1 := by rw [← hQ'.out, hend.out t (by rw [← hh.out.1]; omega) hh.out.2]
        subst e
        go_wp2_with fail
        go_ret
        exact ⟨rfl, rfl⟩
  · go_enter Try.func16, Try.ntmps16
    go_wp2_with fail
    refine (hmy.out _).mono ?_
    rintro e w' ⟨rfl, rfl⟩
    go_wp2_with fail
    go_loopw [6, 7] (fun n q wr => n = .int .i64 1 ∧ q = .int .i64 2 ∧ wr = w) (fun n q _ => 0)
    case atStart => exact ⟨rfl, rfl, rfl⟩
    case round =>
      obtain ⟨rfl, rfl, rfl⟩ := hrel
      go_wp2_with fail
      go_ret
      exact ⟨rfl, rfl⟩
end Go.Proofs.Ytamhlmfcnnomgaa
