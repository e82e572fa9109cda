/- The walks of a window's methods that look at its cells alone; Meet. -/
import Derived.Test.YtkoajbmomipjkaaDoorState
namespace Go.Proofs.YtkoajbmomipjkaaDoor
open Go.RowKit
set_option linter.unusedVariables false

/-- A window in memory. -/
def winB (p : Nat) (b : Bool) (N : Int) (m : Int) : Pc := .blk p [.bool b, .int .u64 N, .int .u64 m] 60

section
variable {p : Nat} {b : Bool} {N m : Int} {L : List Pc} {w : World}
theorem win_cells (H : SL w (winB p b N m :: L)) : w.cell? ⟨p, 0, none⟩ = some (.bool b) ∧ w.cell? ⟨p, 1, none⟩ = some (.int .u64 N) ∧ w.cell? ⟨p, 2, none⟩ = some (.int .u64 m) ∧ ∀ o, w.frozen? ⟨p, o, none⟩ = false :=
  ⟨H.cell (.here _ _) rfl, H.cell (.here _ _) rfl, H.cell (.here _ _) rfl, fun o => H.free (.here _ _) o⟩

theorem none_c (H : SL w (winB p b N m :: L)) : Calls Tryd.prog 24 #[.pointer (some ⟨p, 0, none⟩)] w fun e w' => e = .returned (.bool (!b)) ∧ w = w' := by
  obtain ⟨c0, -, -, -⟩ := win_cells H
  clear H
  go_enter Tryd.func24, Tryd.ntmps24
  go_wp2_with fail
  go_ret
  exact ⟨rfl, rfl⟩
theorem none_nil (w : World) : Calls Tryd.prog 24 #[.pointer none] w fun e w' => e = .returned (.bool true) ∧ w = w' := by
  go_enter Tryd.func24, Tryd.ntmps24
  go_wp2_with fail
  go_ret
  exact ⟨rfl, rfl⟩

theorem next_c (H : SL w (winB p true N m :: L)) : Calls Tryd.prog 14 #[.pointer (some ⟨p, 0, none⟩)] w fun e w' => e = .returned (.int .u64 N) ∧ w = w' := by
  have hn := Lib.hid (none_c H)
  obtain ⟨c0, c1, c2, -⟩ := win_cells H
  clear H
  go_enter Tryd.func14, Tryd.ntmps14
  go_wp2_with fail
  refine hn.out.mono ?_
  rintro e w' ⟨rfl, rfl⟩
  clear hn
  go_wp2_with fail
  go_ret
  exact ⟨rfl, rfl⟩
theorem mask_c (H : SL w (winB p true N m :: L)) : Calls Tryd.prog 17 #[.pointer (some ⟨p, 0, none⟩)] w fun e w' => e = .returned (.int .u64 m) ∧ w = w' := by
  have hn := Lib.hid (none_c H)
  obtain ⟨c0, c1, c2, -⟩ := win_cells H
  clear H
  go_enter Tryd.func17, Tryd.ntmps17
  go_wp2_with fail
  refine hn.out.mono ?_
  rintro e w' ⟨rfl, rfl⟩
  clear hn
  go_wp2_with fail
  go_ret
  exact ⟨rfl, rfl⟩

theorem at_c (H : SL w (winB p true N m :: L)) (N' m' : Int) : Calls Tryd.prog 13 #[.pointer (some ⟨p, 0, none⟩), .int .u64 N', .int .u64 m'] w fun e w' => e = .returned (.bool ((N == N') && (m == m'))) ∧ w = w' := by
  have h1 := Lib.hid (next_c H)
  have h2 := Lib.hid (mask_c H)
  clear H
  obtain ⟨q1, e1⟩ : ∃ q1, (N == N') = q1 := ⟨_, rfl⟩
  obtain ⟨q2, e2⟩ : ∃ q2, (m == m') = q2 := ⟨_, rfl⟩
  rw [e1, e2]
  go_enter Tryd.func13, Tryd.ntmps13
  go_wp2_with fail
  refine h1.out.mono ?_
  rintro e w' ⟨rfl, rfl⟩
  cases q1
  · go_wp2_with fail
    go_ret
    exact ⟨rfl, rfl⟩
  · go_wp2_with fail
    refine h2.out.mono ?_
    rintro e w' ⟨rfl, rfl⟩
    go_wp2_with fail
    go_ret
    exact ⟨by simp, rfl⟩

/-- Whether a number may be met. -/
def roomM (N n : Int) : Bool := decide (n < 4611686018427387904) && decide (n < N + 64)

theorem room_c (H : SL w (winB p true N m :: L)) (n : Int) (h0 : 0 ≤ N) (h1 : N ≤ 4611686018427389000) : Calls Tryd.prog 11 #[.pointer (some ⟨p, 0, none⟩), .int .u64 n] w fun e w' => e = .returned (.bool (roomM N n)) ∧ w = w' := by
  have hn := Lib.hid (none_c H)
  obtain ⟨c0, c1, c2, -⟩ := win_cells H
  have u1 : IntKind.u64.wrap (N + 64) = N + 64 := by rw [IntKind.wrap_u64]; omega
  obtain ⟨q1, e1⟩ : ∃ q1, decide (n < 4611686018427387904) = q1 := ⟨_, rfl⟩
  obtain ⟨q2, e2⟩ : ∃ q2, decide (n < N + 64) = q2 := ⟨_, rfl⟩
  unfold roomM
  rw [e1, e2]
  clear H h0 h1
  go_enter Tryd.func11, Tryd.ntmps11
  go_wp2_with fail
  refine hn.out.mono ?_
  rintro e w' ⟨rfl, rfl⟩
  clear hn
  cases q1
  · go_wp2_with fail
    go_ret
    exact ⟨rfl, rfl⟩
  · go_wp2_with fail
    go_ret
    exact ⟨rfl, rfl⟩
end

theorem new_c {L : List Pc} {w : World} (H : SL w L) : Calls Tryd.prog 21 #[] w fun e w' => ∃ p, e = .returned (.pointer (some ⟨p, 0, none⟩)) ∧ SL w' (winB p true 0 0 :: L) := by
  have H1 := Lib.hid (H.alloc [.bool true, .int .u64 0, .int .u64 0] 60)
  go_enter Tryd.func21, Tryd.ntmps21
  go_wp2_with fail
  go_ret
  exact ⟨_, rfl, H1.out⟩

set_option maxHeartbeats 2000000 in
theorem meet_no {p : Nat} {N n m : Int} {L : List Pc} {w : World} (H : SL w (winB p true N m :: L)) (hq : roomM N n = false) (h0 : 0 ≤ N) (h1 : N ≤ 4611686018427389000) :
    Calls Tryd.prog 12 #[.pointer (some ⟨p, 0, none⟩), .int .u64 n] w fun e w' => e = .returned (.tuple #[.bool false, .int .i64 190]) ∧ w = w' := by
  have hn := Lib.hid (none_c H)
  have hr := Lib.hid (room_c H n h0 h1)
  rw [hq] at hr
  clear H hq h0 h1
  go_enter Tryd.func12, Tryd.ntmps12
  go_wp2_with fail
  refine hn.out.mono ?_
  rintro e w' ⟨rfl, rfl⟩
  go_wp2_with fail
  refine hr.out.mono ?_
  rintro e w' ⟨rfl, rfl⟩
  clear hn hr
  go_wp2_with fail
  go_ret2
  exact ⟨rfl, rfl⟩

set_option maxHeartbeats 2000000 in
theorem meet_yes {p N n : Nat} {x : BitVec 64} {L : List Pc} {w : World} (H : SL w (winB p true N (U x) :: L)) (ht : Tab w) (hx : ~~~x ≠ 0#64) (hN : (N : Int) ≤ 4611686018427389000) (hq : roomM N n = true) :
    Calls Tryd.prog 12 #[.pointer (some ⟨p, 0, none⟩), .int .u64 n] w fun e w' =>
      e = .returned (.tuple #[.bool (!metM N x n), .int .i64 0]) ∧ SL w' (winB p true ((withM N x n).1 : Nat) (U (withM N x n).2) :: L) := by
  have hn := Lib.hid (none_c H)
  have hr := Lib.hid (room_c H (n : Int) (by omega) hN)
  have hH := Lib.hid H
  have hn65 : n < N + 65 := by
    unfold roomM at hq
    rw [Bool.and_eq_true, decide_eq_true_eq, decide_eq_true_eq] at hq
    omega
  rw [hq] at hr
  have H2 := Lib.hid (H.alloc [.int .u64 N, .int .u64 (U x)] 58)
  have hW := Lib.hid (fun (V : World) (h : Tab V) => with_c N n x hx hN hn65 V h)
  have hres : Hid ((!decide (((withM N x n).1 : Int) = N ∧ U (withM N x n).2 = U x)) = (!metM N x n)) := by
    refine Lib.hid ?_
    cases hm : metM N x n with
    | true => rw [with_same hm]; simp
    | false =>
      have h := with_other hx hn65 hm
      have h5 : ¬ (((withM N x n).1 : Int) = N ∧ U (withM N x n).2 = U x) := by
        rintro ⟨h1, h2⟩
        exact h (Prod.ext (by omega) (U_inj h2))
      rw [decide_eq_false h5]
  generalize (!metM N x n) = r at *
  generalize withM N x n = z at *
  obtain ⟨N', x'⟩ := z
  dsimp only at hW hres ⊢
  have hk := Lib.hid (ht.no ((Kp.refl no w).alloc (.cells #[Value.int .u64 N, .int .u64 (U x)] 58)))
  have hneq := Lib.hid (fun V : World => neq_state (N' : Int) (U x') (N : Int) (U x) V)
  generalize decide ((N' : Int) = N ∧ U x' = U x) = dd at *
  obtain ⟨c0, c1, c2, hfz⟩ := win_cells H
  clear H ht hx hN hq hn65
  go_enter Tryd.func12, Tryd.ntmps12
  go_wp2_with fail
  refine hn.out.mono ?_
  rintro e w' ⟨rfl, rfl⟩
  go_wp2_with fail
  refine hr.out.mono ?_
  rintro e w' ⟨rfl, rfl⟩
  clear hn hr
  go_wp2_with fail
  refine (hW.out _ hk.out).mono ?_
  rintro e w3 ⟨rfl, k3⟩
  have h3 := (H2.out.quiet k3).re (L' := winB p true N (U x) :: .blk w.heap.size [.int .u64 N, .int .u64 (U x)] 58 :: L) (.step (.there (.here _ _)) (.same _))
  generalize w.heap.size = bb at *
  have g0 := h3.cell (o := 1) (.here _ _) rfl
  have g1 := h3.cell (o := 2) (.here _ _) rfl
  have gf := fun o => h3.free (.here _ _) o
  have hH3 := Lib.hid h3
  clear H2 hk k3 h3 c0 c1 c2 hfz hW hH
  go_wp2_with fail
  have h4 := (hH3.out.setCell 1 (.int .u64 N')).setCell 2 (.int .u64 (U x'))
  generalize (w3.setCell ⟨p, 1, none⟩ (.int .u64 N')).setCell ⟨p, 2, none⟩ (.int .u64 (U x')) = w4 at *
  have k1 := h4.cell (o := 1) (.here _ _) rfl
  have k2 := h4.cell (o := 2) (.here _ _) rfl
  have k3 := h4.cell (o := 0) (.there (.here _ _)) rfl
  have k4 := h4.cell (o := 1) (.there (.here _ _)) rfl
  have hH4 := Lib.hid h4
  have hneq2 := hneq.out
  clear hH3 h4 g0 g1 gf
  go_quiet (fail)
  go_wp2_with fail
  go_ret2
  exact ⟨by rw [← hres.out]; rfl, (hH4.out.drewN nq).re (.step (.here _ _) (.drop (.same _)))⟩
end Go.Proofs.YtkoajbmomipjkaaDoor
