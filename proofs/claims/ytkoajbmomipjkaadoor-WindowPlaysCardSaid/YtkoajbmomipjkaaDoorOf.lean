/- last; may; Of. -/
import Derived.Test.YtkoajbmomipjkaaDoorLen64
import Derived.Test.YtkoajbmomipjkaaDoorSLRange
namespace Go.Proofs.YtkoajbmomipjkaaDoor
open Go.RowKit
set_option linter.unusedVariables false

/-- What last tells. -/
def lastV (N m : Int) : Int := IntKind.u64.wrap (N + IntKind.u64.wrap (lenV m))
def mayV (N m : Int) : Bool := decide (N ≤ 4611686018427387904) && (decide (m < 9223372036854775808) && (m == 0 || decide (lastV N m < 4611686018427387904)))

set_option maxHeartbeats 2000000 in
theorem last_c (N m : Int) (h0 : 0 ≤ m) (h1 : m ≤ 18446744073709551615) (w : World) :
    Calls Tryd.prog 27 #[.agg #[.int .u64 N, .int .u64 m]] w fun e w' => e = .returned (.int .u64 (lastV N m)) ∧ Kp no w w' := by
  have hl := Lib.hid (fun V : World => len_c m h0 h1 V)
  have H := (SL.start w).alloc [.int .u64 N, .int .u64 m] 58
  have hH := Lib.hid H
  unfold lastV
  generalize lenV m = k at *
  clear H h0 h1
  go_enter Tryd.func27, Tryd.ntmps27
  go_wp2_with fail
  generalize w.alloc (.cells #[Value.int .u64 N, .int .u64 m] 58) = w2 at *
  have c0 := hH.out.cell (o := 0) (.here _ _) rfl
  have c1 := hH.out.cell (o := 1) (.here _ _) rfl
  generalize w.heap.size = b at *
  go_quiet ((go_at_call 40; exact quiet_eq (hl.out _)))
  go_wp2_with fail
  go_ret
  exact ⟨rfl, (hH.out.drewN nq).kp (.there (.here _ _))⟩

set_option maxHeartbeats 2000000 in
theorem may_c (N m : Int) (h0 : 0 ≤ m) (h1 : m ≤ 18446744073709551615) (w : World) :
    Calls Tryd.prog 23 #[.agg #[.int .u64 N, .int .u64 m]] w fun e w' => e = .returned (.bool (mayV N m)) ∧ Kp no w w' := by
  have hl := Lib.hid (fun V : World => last_c N m h0 h1 V)
  have hk := Lib.hid ((Kp.refl no w).alloc (.cells #[Value.int .u64 N, .int .u64 m] 58))
  unfold mayV
  generalize lastV N m = k at *
  clear h0 h1
  obtain ⟨q1, e1⟩ : ∃ q, decide (N ≤ 4611686018427387904) = q := ⟨_, rfl⟩
  obtain ⟨q2, e2⟩ : ∃ q, decide (m < 9223372036854775808) = q := ⟨_, rfl⟩
  obtain ⟨q3, e3⟩ : ∃ q, (m == 0) = q := ⟨_, rfl⟩
  obtain ⟨q4, e4⟩ : ∃ q, decide (k < 4611686018427387904) = q := ⟨_, rfl⟩
  rw [e1, e2, e3, e4]
  go_enter Tryd.func23, Tryd.ntmps23
  cases q1
  · go_wp2_with fail
    go_ret
    exact ⟨rfl, hk.out⟩
  · cases q2
    · go_wp2_with fail
      go_ret
      exact ⟨rfl, hk.out⟩
    · cases q3
      · go_wp2_with fail
        refine (hl.out _).mono ?_
        rintro e w3 ⟨rfl, k3⟩
        have hk3 := Lib.hid (hk.out.trans k3)
        clear k3
        go_wp2_with fail
        go_ret
        exact ⟨by simp, hk3.out⟩
      · go_wp2_with fail
        go_ret
        exact ⟨rfl, hk.out⟩

def OfPost (q : Bool) (N m : Int) (L : List Pc) (e : Ending) (w' : World) : Prop :=
  (q = false ∧ e = .returned (.tuple #[.pointer none, .int .i64 190]) ∧ SL w' L) ∨
  (q = true ∧ ∃ p, e = .returned (.tuple #[.pointer (some ⟨p, 0, none⟩), .int .i64 0]) ∧ SL w' (winB p true N m :: L))

set_option maxHeartbeats 2000000 in
theorem of_c (N m : Int) (h0 : 0 ≤ m) (h1 : m ≤ 18446744073709551615) {L : List Pc} {w : World} (H : SL w L) :
    Calls Tryd.prog 9 #[.int .u64 N, .int .u64 m] w fun e w' => OfPost (mayV N m) N m L e w' := by
  have hl := Lib.hid (fun V : World => may_c N m h0 h1 V)
  have H1 := Lib.hid (H.alloc [.int .u64 N, .int .u64 m] 58)
  generalize mayV N m = q at *
  clear h0 h1 H
  go_enter Tryd.func9, Tryd.ntmps9
  go_wp2_with fail
  refine (hl.out _).mono ?_
  rintro e w3 ⟨rfl, k3⟩
  have h3 := H1.out.quiet k3
  generalize w.heap.size = b at *
  have c0 := h3.cell (o := 0) (.here _ _) rfl
  have c1 := h3.cell (o := 1) (.here _ _) rfl
  have h4 := Lib.hid (show SL w3 L from h3.re (.drop (.same _)))
  have h5 := Lib.hid (h4.out.alloc [.bool true, .int .u64 N, .int .u64 m] 60)
  clear h3 k3 H1 hl
  cases q
  · go_wp2_with fail
    go_ret2
    exact Or.inl ⟨rfl, rfl, h4.out⟩
  · go_wp2_with fail
    go_ret2
    exact Or.inr ⟨rfl, _, rfl, h5.out⟩
end Go.Proofs.YtkoajbmomipjkaaDoor
