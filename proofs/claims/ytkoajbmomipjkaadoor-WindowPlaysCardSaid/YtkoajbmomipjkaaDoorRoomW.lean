/- The walk of the law WindowRoom. -/
import Derived.Test.YtkoajbmomipjkaaDoorAlive
namespace Go.Proofs.YtkoajbmomipjkaaDoor
open Go.RowKit
set_option linter.unusedVariables false

theorem with_far {N n : Nat} {x : BitVec 64} (hx : ~~~x ≠ 0#64) : (withM N x n).1 ≤ N + 65 := by
  unfold withM
  split
  · have := (run_ones hx).2.2; simp only; omega
  · split <;> simp only <;> omega

theorem may_bounds {N m : Int} (h : mayV N m = true) : N ≤ 4611686018427387904 ∧ m < 9223372036854775808 := by
  unfold mayV at h
  simp only [Bool.and_eq_true, decide_eq_true_eq] at h
  exact ⟨h.1, h.2.1⟩

set_option maxRecDepth 100000 in
set_option maxHeartbeats 8000000 in
theorem roomLaw (N n : Nat) (x : BitVec 64) (w : World) (ht : Tab w) : Calls Tryd.prog 3 #[.int .u64 N, .int .u64 (U x), .int .u64 n] w fun e w' => e = .returned (.bool true) ∧ Kp no w w' := by
  have ht' := Lib.hid ht
  have ha := Lib.hid (alive_c w w ht (SL.start w))
  have ho := Lib.hid (fun V (h : SL V [.old w no]) => of_c (N : Int) (U x) (U_nn x) (U_lt64 x) h)
  clear ht
  go_enter Tryd.func3, Tryd.ntmps3
  go_wp2_with fail
  refine ha.out.mono ?_
  rintro e w1 ⟨rfl, H⟩
  have ho1 := Lib.hid (ho.out _ H)
  clear ha ho H
  go_wp2_with fail
  refine ho1.out.mono ?_
  rintro e w2 (⟨-, rfl, H⟩ | ⟨hmay, p, rfl, H⟩)
  · have hH := Lib.hid H
    clear ho1 H
    go_wp2_with fail
    go_ret
    exact ⟨rfl, hH.out.kp (.here _ _)⟩
  · obtain ⟨b1, b2⟩ := may_bounds hmay
    have hx : ~~~x ≠ 0#64 := not_full (top_clear (by unfold U at b2; omega))
    have hx' := Lib.hid hx
    have hbN := Lib.hid b1
    have hh := Lib.hid (has_c (n := n) w H ht'.out (by omega))
    have u1 : IntKind.u64.wrap ((N : Int) + 64) = (N : Int) + 64 := by rw [IntKind.wrap_u64]; omega
    have hroom : Hid (roomM N n = (decide ((n : Int) < 4611686018427387904) && decide ((n : Int) < (N : Int) + 64))) := Lib.hid rfl
    obtain ⟨q1, hq1⟩ : ∃ q, decide ((n : Int) < (N : Int) + 64) = q := ⟨_, rfl⟩
    obtain ⟨q2, hq2⟩ : ∃ q, decide ((n : Int) < 4611686018427387904) = q := ⟨_, rfl⟩
    rw [hq1, hq2] at hroom
    clear ho1 hmay b1 b2 hx H
    cases q1 <;> cases q2
    · have hrm : roomM N n = false := by rw [hroom.out]; rfl
      go_wp2_with fail
      refine hh.out.mono ?_
      rintro e w3 ⟨rfl, H⟩
      have hr := room_c H (n : Int) (by omega) (by have := hbN.out; omega)
      rw [hrm] at hr
      have hr' := Lib.hid hr
      have hm := Lib.hid (meet_no H hrm (by omega) (by have := hbN.out; omega))
      have hat := at_c H N (U x)
      rw [beq_self_eq_true, beq_self_eq_true, Bool.and_self] at hat
      have hat' := Lib.hid hat
      have hH := Lib.hid H
      clear H hh hr hat hrm
      go_wp2_with fail
      refine hr'.out.mono ?_
      rintro e w' ⟨rfl, rfl⟩
      go_wp2_with fail
      refine hm.out.mono ?_
      rintro e w' ⟨rfl, rfl⟩
      go_wp2_with fail
      refine hat'.out.mono ?_
      rintro e w' ⟨rfl, rfl⟩
      go_wp2_with fail
      go_ret
      exact ⟨rfl, hH.out.kp (.there (.here _ _))⟩
    · have hrm : roomM N n = false := by rw [hroom.out]; rfl
      go_wp2_with fail
      refine hh.out.mono ?_
      rintro e w3 ⟨rfl, H⟩
      have hr := room_c H (n : Int) (by omega) (by have := hbN.out; omega)
      rw [hrm] at hr
      have hr' := Lib.hid hr
      have hm := Lib.hid (meet_no H hrm (by omega) (by have := hbN.out; omega))
      have hat := at_c H N (U x)
      rw [beq_self_eq_true, beq_self_eq_true, Bool.and_self] at hat
      have hat' := Lib.hid hat
      have hH := Lib.hid H
      clear H hh hr hat hrm
      go_wp2_with fail
      refine hr'.out.mono ?_
      rintro e w' ⟨rfl, rfl⟩
      go_wp2_with fail
      refine hm.out.mono ?_
      rintro e w' ⟨rfl, rfl⟩
      go_wp2_with fail
      refine hat'.out.mono ?_
      rintro e w' ⟨rfl, rfl⟩
      go_wp2_with fail
      go_ret
      exact ⟨rfl, hH.out.kp (.there (.here _ _))⟩
    · have hrm : roomM N n = false := by rw [hroom.out]; rfl
      go_wp2_with fail
      refine hh.out.mono ?_
      rintro e w3 ⟨rfl, H⟩
      have hr := room_c H (n : Int) (by omega) (by have := hbN.out; omega)
      rw [hrm] at hr
      have hr' := Lib.hid hr
      have hm := Lib.hid (meet_no H hrm (by omega) (by have := hbN.out; omega))
      have hat := at_c H N (U x)
      rw [beq_self_eq_true, beq_self_eq_true, Bool.and_self] at hat
      have hat' := Lib.hid hat
      have hH := Lib.hid H
      clear H hh hr hat hrm
      go_wp2_with fail
      refine hr'.out.mono ?_
      rintro e w' ⟨rfl, rfl⟩
      go_wp2_with fail
      refine hm.out.mono ?_
      rintro e w' ⟨rfl, rfl⟩
      go_wp2_with fail
      refine hat'.out.mono ?_
      rintro e w' ⟨rfl, rfl⟩
      go_wp2_with fail
      go_ret
      exact ⟨rfl, hH.out.kp (.there (.here _ _))⟩
    · have hrm : roomM N n = true := by rw [hroom.out]; rfl
      have hn65 : n < N + 65 := by have := of_decide_eq_true hq1; omega
      go_wp2_with fail
      refine hh.out.mono ?_
      rintro e w3 ⟨rfl, H⟩
      have hr := room_c H (n : Int) (by omega) (by have := hbN.out; omega)
      rw [hrm] at hr
      have hr' := Lib.hid hr
      have hm := Lib.hid (meet_yes H (ht'.out.no (H.all (.old w no) (by simp))) hx'.out (by have := hbN.out; omega) hrm)
      have hmet := with_met hx'.out hn65 n
      have hfar := with_far (N := N) (n := n) hx'.out
      have hnx := with_next (N := N) (n := n) (x := x)
      have hsame := Lib.hid (fun h : metM N x n = true => with_same h)
      rw [decide_eq_true rfl, Bool.or_true] at hmet
      generalize metM N x n = b at *
      generalize withM N x n = z at *
      obtain ⟨N', x'⟩ := z
      dsimp only at hmet hfar hnx hm
      have hmet' := Lib.hid hmet
      have hnx' : Hid (decide (N ≤ N') = true) := Lib.hid (by simpa using hnx)
      have hfar' := Lib.hid hfar
      clear H hh hr hrm hmet hfar hnx hn65
      go_wp2_with fail
      refine hr'.out.mono ?_
      rintro e w' ⟨rfl, rfl⟩
      go_wp2_with fail
      refine hm.out.mono ?_
      rintro e w4 ⟨rfl, H⟩
      have hh2 := has_c (n := n) w H ht'.out (by have := hbN.out; have := hfar'.out; omega)
      rw [hmet'.out] at hh2
      have hh2' := Lib.hid hh2
      clear H hm hr' hh2
      cases b
      · go_wp2_with fail
        refine hh2'.out.mono ?_
        rintro e w5 ⟨rfl, H⟩
        have hn := Lib.hid (next_c H)
        have hH := Lib.hid H
        have hle := hnx'.out
        clear H hh2'
        go_wp2_with fail
        refine hn.out.mono ?_
        rintro e w' ⟨rfl, rfl⟩
        go_wp2_with fail
        go_ret
        exact ⟨rfl, hH.out.kp (.there (.here _ _))⟩
      · have hs := hsame.out rfl
        cases hs
        go_wp2_with fail
        refine hh2'.out.mono ?_
        rintro e w5 ⟨rfl, H⟩
        have hn := Lib.hid (next_c H)
        have hat := at_c H N (U x)
        rw [beq_self_eq_true, beq_self_eq_true, Bool.and_self] at hat
        have hat' := Lib.hid hat
        have hH := Lib.hid H
        have hle := hnx'.out
        clear H hh2' hat
        go_wp2_with fail
        refine hn.out.mono ?_
        rintro e w' ⟨rfl, rfl⟩
        go_wp2_with fail
        refine hat'.out.mono ?_
        rintro e w' ⟨rfl, rfl⟩
        go_wp2_with fail
        go_ret
        exact ⟨rfl, hH.out.kp (.there (.here _ _))⟩
end Go.Proofs.YtkoajbmomipjkaaDoor
