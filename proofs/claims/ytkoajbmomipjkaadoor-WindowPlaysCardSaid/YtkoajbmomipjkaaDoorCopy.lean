/- Copy; Last; the methods of none. -/
import Derived.Test.YtkoajbmomipjkaaDoorTold
namespace Go.Proofs.YtkoajbmomipjkaaDoor
open Go.RowKit
set_option linter.unusedVariables false

theorem copy_c {p : Nat} {N m : Int} {L : List Pc} {w : World} (H : SL w (winB p true N m :: L)) :
    Calls Tryd.prog 18 #[.pointer (some ⟨p, 0, none⟩)] w fun e w' => ∃ q, e = .returned (.pointer (some ⟨q, 0, none⟩)) ∧ SL w' (winB q true N m :: winB p true N m :: L) := by
  have hn := Lib.hid (none_c H)
  have H1 := Lib.hid (H.alloc [.bool true, .int .u64 N, .int .u64 m] 60)
  obtain ⟨c0, c1, c2, hfz⟩ := win_cells H
  clear H
  go_enter Tryd.func18, Tryd.ntmps18
  go_wp2_with fail
  refine hn.out.mono ?_
  rintro e w' ⟨rfl, rfl⟩
  clear hn
  go_wp2_with fail
  go_ret
  exact ⟨_, rfl, H1.out⟩

theorem eql_state (a b c e : Int) (w : World) : (binOp .eql 58 (.agg #[.int .u64 a, .int .u64 b]) (.agg #[.int .u64 c, .int .u64 e])).run Tryd.prog w = .ok (.bool (decide (a = c ∧ b = e))) w := by
  rw [run_eql_struct, eq_state 9998 a b c e w]
  rfl

/-- What Last answers. -/
def lastA (N m : Int) : Int × Bool := if N = 0 ∧ m = 0 then (0, false) else if m = 0 then (IntKind.u64.wrap (N - 1), true) else (lastV N m, true)

set_option maxHeartbeats 2000000 in
theorem lastW_c {p : Nat} {N m : Int} {L : List Pc} {w : World} (H : SL w (winB p true N m :: L)) (h0 : 0 ≤ m) (h1 : m ≤ 18446744073709551615) :
    Calls Tryd.prog 16 #[.pointer (some ⟨p, 0, none⟩)] w fun e w' => e = .returned (.tuple #[.int .u64 (lastA N m).1, .bool (lastA N m).2]) ∧ SL w' (winB p true N m :: L) := by
  have hn := Lib.hid (none_c H)
  have hl := Lib.hid (fun V : World => last_c N m h0 h1 V)
  have hH := Lib.hid H
  have heq := Lib.hid (fun V : World => eql_state N m 0 0 V)
  obtain ⟨c0, c1, c2, hfz⟩ := win_cells H
  clear H h0 h1
  unfold lastA
  have heq2 := heq.out
  go_enter Tryd.func16, Tryd.ntmps16
  by_cases hz : N = 0 ∧ m = 0
  · have d : decide (N = 0 ∧ m = 0) = true := decide_eq_true hz
    rw [if_pos hz]
    clear hz
    rw [d] at heq2
    go_wp2_with fail
    refine hn.out.mono ?_
    rintro e w' ⟨rfl, rfl⟩
    clear hn
    go_wp2_with fail
    go_ret2
    exact ⟨rfl, hH.out⟩
  · have d : decide (N = 0 ∧ m = 0) = false := decide_eq_false hz
    rw [if_neg hz]
    clear hz
    rw [d] at heq2
    by_cases hm : m = 0
    · subst hm
      rw [if_pos rfl]
      go_wp2_with fail
      refine hn.out.mono ?_
      rintro e w' ⟨rfl, rfl⟩
      clear hn
      go_wp2_with fail
      go_ret2
      exact ⟨rfl, hH.out⟩
    · have dm : (m == 0) = false := by simpa using hm
      rw [if_neg hm]
      clear hm
      generalize lastV N m = k at *
      go_wp2_with fail
      refine hn.out.mono ?_
      rintro e w' ⟨rfl, rfl⟩
      clear hn
      go_wp2_with fail
      refine (hl.out _).mono ?_
      rintro e w3 ⟨rfl, k3⟩
      have h3 := Lib.hid (hH.out.quiet k3)
      clear k3
      go_wp2_with fail
      go_ret2
      exact ⟨rfl, h3.out⟩
end Go.Proofs.YtkoajbmomipjkaaDoor
