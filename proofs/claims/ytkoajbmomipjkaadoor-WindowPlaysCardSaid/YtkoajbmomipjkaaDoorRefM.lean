/- The walks of the reference's May and Both (printed by genrefb.py). -/
import Derived.Test.YtkoajbmomipjkaaDoorRefA
namespace Go.Proofs.YtkoajbmomipjkaaDoor
open Go.RowKit
set_option linter.unusedVariables false

/-- So far nothing is too great. -/
structure MayR (N : Nat) (x : BitVec 64) (k : Nat) : Prop where
  all : ∀ i, i < k → x.getLsbD i = true → (N : Int) + 1 + i < 4611686018427387904

theorem may_yes {N : Nat} {x : BitVec 64} (h1 : (N : Int) ≤ 4611686018427387904) (h2 : U x < 9223372036854775808) (h : MayR N x 64) : mayV N (U x) = true := by
  rw [may_good]
  refine ⟨top_clear (by unfold U at h2; omega), fun k hk => ?_⟩
  unfold metM at hk
  rw [Bool.or_eq_true, Bool.and_eq_true, decide_eq_true_eq, decide_eq_true_eq] at hk
  rcases hk with hk | ⟨hk, hb⟩
  · omega
  · have := h.all (k - N - 1) (BitVec.lt_of_getLsbD hb) hb
    omega
theorem may_no {N : Nat} {x : BitVec 64} {k : Nat} (hb : x.getLsbD k = true) (h : 4611686018427387904 ≤ (N : Int) + 1 + k) : mayV N (U x) = false := by
  cases hm : mayV N (U x) with
  | false => rfl
  | true =>
    have hg := (may_good N x).1 hm
    have := hg.low (N + 1 + k) (by
      unfold metM
      rw [decide_eq_true (by omega : N < N + 1 + k), show N + 1 + k - N - 1 = k by omega, hb]
      simp)
    omega

structure Bnd (A u : Int) : Prop where
  a0 : 0 ≤ A
  i1 : A ≤ 4611686018427387904
  i2 : u < 9223372036854775808

set_option maxRecDepth 100000 in
set_option maxHeartbeats 4000000 in
theorem refMay_c (N : Nat) (x : BitVec 64) (hN : (N : Int) ≤ 18446744073709551615) (w : World) :
    Calls Tryd.prog 20 #[.agg #[.int .u64 N, .int .u64 (U x)]] w fun e w' => e = .returned (.bool (mayV N (U x))) ∧ Kp no w w' := by
  obtain ⟨A, hA⟩ : ∃ A, (N : Int) = A := ⟨_, rfl⟩
  have hH := Lib.hid ((SL.start w).alloc [.int .u64 A, .int .u64 (U x)] 50)
  have hyes : Hid (A ≤ 4611686018427387904 → U x < 9223372036854775808 → MayR N x 64 → mayV A (U x) = true) := Lib.hid (by rw [← hA]; exact fun h1 h2 h => may_yes h1 h2 h)
  have hno : Hid (∀ k : Nat, x.getLsbD k = true → 4611686018427387904 ≤ A + 1 + k → mayV A (U x) = false) := Lib.hid (by rw [← hA]; exact fun k hb h => may_no hb h)
  obtain ⟨q1, e1⟩ : ∃ q, decide ((4611686018427387904 : Int) < A) = q := ⟨_, rfl⟩
  obtain ⟨q2, e2⟩ : ∃ q, decide ((9223372036854775808 : Int) ≤ U x) = q := ⟨_, rfl⟩
  have r1 : Hid (q1 = true → mayV A (U x) = false) := Lib.hid (fun h => by
    rw [h] at e1
    have := of_decide_eq_true e1
    unfold mayV; rw [decide_eq_false (by omega)]; rfl)
  have r2 : Hid (q2 = true → mayV A (U x) = false) := Lib.hid (fun h => by
    rw [h] at e2
    have := of_decide_eq_true e2
    unfold mayV; rw [decide_eq_false (by omega : ¬ U x < 9223372036854775808)]; simp)
  have a0 : 0 ≤ A := by omega
  rw [hA]
  have hA' := Lib.hid hA
  clear hA hN
  go_enter Tryd.func20, Tryd.ntmps20
  cases q1
  · cases q2
    · have i1 : A ≤ 4611686018427387904 := by have := of_decide_eq_false e1; omega
      have i2 : Hid (U x < 9223372036854775808) := Lib.hid (by have := of_decide_eq_false e2; omega)
      go_wp2_with fail
      generalize w.alloc (.cells #[.int .u64 A, .int .u64 (U x)] 50) = w2 at *
      generalize w.heap.size = b at *
      have bnd : Bnd A (U x) := ⟨a0, i1, i2.out⟩
      clear e1 e2 i1 a0 i2
      go_loopw [3] (fun t V => ∃ k : Nat, k ≤ 64 ∧ t = .int .u64 (k : Int) ∧ MayR N x k ∧ SL V [.blk b [.int .u64 A, .int .u64 (U x)] 50, .old w no]) (fun t _ => 64 - (intOf t).toNat)
      case atStart => exact ⟨0, by omega, rfl, ⟨fun i hi => by omega⟩, hH.out⟩
      case round =>
        clear hH
        obtain ⟨k, hk, rfl, hm, H⟩ := hrel
        by_cases hlt : k < 64
        · have c0 := H.cell (o := 0) (.here _ _) rfl
          have c1 := H.cell (o := 1) (.here _ _) rfl
          have u1 : IntKind.u64.wrap (A + 1) = A + 1 := by have := bnd.a0; have := bnd.i1; rw [IntKind.wrap_u64]; omega
          have u2 : IntKind.u64.wrap (A + 1 + k) = A + 1 + k := by have := bnd.a0; have := bnd.i1; rw [IntKind.wrap_u64]; omega
          have hb := refBit_c x k wr
          have hbt : ∃ bt, x.getLsbD k = bt := ⟨_, rfl⟩
          obtain ⟨bt, hbt0⟩ := hbt
          rw [hbt0] at hb
          have hb' := Lib.hid hb
          have hH := Lib.hid H
          have hbt := Lib.hid hbt0
          have hm' := Lib.hid hm
          clear H hb hbt0 hm
          go_wp2_with fail
          refine hb'.out.mono ?_
          rintro e w' ⟨rfl, rfl⟩
          clear hb'
          cases bt
          · have hm2 : Hid (MayR N x (k + 1)) := Lib.hid ⟨fun i hi hx => by
              rcases Nat.lt_or_ge i k with h | h
              · exact hm'.out.all i h hx
              · obtain rfl : i = k := by omega
                have := hbt.out; rw [this] at hx; cases hx⟩
            clear hm' hbt
            go_wp2_with fail
            go_roundw
            case rel => exact ⟨k + 1, by omega, by go_num, hm2.out, hH.out⟩
            case measure => (simp [intOf]; try omega)
          · obtain ⟨q3, e3⟩ : ∃ q, decide ((4611686018427387904 : Int) ≤ A + 1 + k) = q := ⟨_, rfl⟩
            cases q3
            · have hm2 : Hid (MayR N x (k + 1)) := Lib.hid ⟨fun i hi hx => by
                rcases Nat.lt_or_ge i k with h | h
                · exact hm'.out.all i h hx
                · obtain rfl : i = k := by omega
                  have := of_decide_eq_false e3
                  have := hA'.out
                  omega⟩
              clear hm' hbt
              go_wp2_with fail
              go_roundw
              case rel => exact ⟨k + 1, by omega, by go_num, hm2.out, hH.out⟩
              case measure => (simp [intOf]; try omega)
            · have hr : Hid (mayV A (U x) = false) := Lib.hid (hno.out k hbt.out (of_decide_eq_true e3))
              clear hm' hbt
              go_wp2_with fail
              go_ret
              exact ⟨by rw [hr.out]; rfl, hH.out.kp (.there (.here _ _))⟩
        · obtain rfl : k = 64 := by omega
          have hr : Hid (mayV A (U x) = true) := Lib.hid (hyes.out bnd.i1 bnd.i2 hm)
          have hH := Lib.hid H
          clear hm H
          go_wp2_with fail
          go_ret
          exact ⟨by rw [hr.out]; rfl, hH.out.kp (.there (.here _ _))⟩
    · go_wp2_with fail
      go_ret
      exact ⟨by rw [r2.out (by trivial)]; rfl, hH.out.kp (.there (.here _ _))⟩
  · go_wp2_with fail
    go_ret
    exact ⟨by rw [r1.out (by trivial)]; rfl, hH.out.kp (.there (.here _ _))⟩

end Go.Proofs.YtkoajbmomipjkaaDoor
