/- The walks of the reference: Bit, Has, May, Room, Count. -/
import Derived.Test.YtkoajbmomipjkaaDoorSumsL
import Derived.IntWalk
namespace Go.Proofs.YtkoajbmomipjkaaDoor
open Go.RowKit
set_option linter.unusedVariables false

theorem bit_mod (x : BitVec 64) (i : Nat) : (U (x >>> i) % 2 == 1) = x.getLsbD i := by
  have h : x.getLsbD i = decide (x.toNat / 2 ^ i % 2 = 1) := by rw [BitVec.getLsbD, Nat.testBit_eq_decide_div_mod_eq]
  rw [h, Bool.eq_iff_iff, beq_iff_eq, decide_eq_true_eq]
  unfold U
  rw [BitVec.toNat_ushiftRight, Nat.shiftRight_eq_div_pow]
  omega

set_option maxHeartbeats 2000000 in
theorem refBit_c (x : BitVec 64) (i : Nat) (w : World) :
    Calls Tryd.prog 29 #[.int .u64 (U x), .int .u64 i] w fun e w' => e = .returned (.bool (x.getLsbD i)) ∧ w = w' := by
  by_cases hi : 63 < i
  · rw [BitVec.getLsbD_of_ge _ _ (by omega)]
    generalize U x = z at *
    go_enter Tryd.func29, Tryd.ntmps29
    go_wp2_with fail
    go_ret
    exact ⟨rfl, rfl⟩
  · have hi2 : i ≤ 63 := by omega
    have hm := Lib.hid (bit_mod x i)
    generalize x.getLsbD i = r at *
    have hh := Lib.hid (fun k : Nat => half64 (x >>> k))
    have hx0 : Hid (U x = U (x >>> 0)) := Lib.hid (by simp)
    clear hi
    go_enter Tryd.func29, Tryd.ntmps29
    go_wp2_with fail
    go_loopw [5, 0] (fun t m V => ∃ k : Nat, k ≤ i ∧ t = .int .u64 (k : Int) ∧ m = .int .u64 (U (x >>> k)) ∧ V = w) (fun t _ _ => i - (intOf t).toNat)
    case atStart => exact ⟨0, by omega, rfl, by rw [← hx0.out], by trivial⟩
    case round =>
      obtain ⟨k, hk, rfl, rfl, hV⟩ := hrel
      subst hV
      have b0 := U_nn (x >>> k)
      have b1 := U_lt64 (x >>> k)
      by_cases hlt : k < i
      · have h2 := hh.out k
        have h3 : Hid (U (x >>> k >>> 1) = U (x >>> (k + 1))) := Lib.hid (by rw [BitVec.shiftRight_add])
        generalize U (x >>> k >>> 1) = z2 at *
        obtain ⟨z, hz⟩ : ∃ z, U (x >>> k) = z := ⟨_, rfl⟩
        rw [hz] at b0 b1 h2 ⊢
        clear hz
        go_wp2_with fail
        go_roundw
        case rel => exact ⟨k + 1, by omega, by go_num, by rw [h2, h3.out], by trivial⟩
        case measure => (simp [intOf]; try omega)
      · obtain rfl : k = i := by omega
        have hm2 := hm.out
        obtain ⟨z, hz⟩ : ∃ z, U (x >>> k) = z := ⟨_, rfl⟩
        rw [hz] at b0 b1 hm2 ⊢
        clear hz hm hh hx0
        go_wp2_with fail
        go_ret
        exact ⟨rfl, by trivial⟩

set_option maxHeartbeats 2000000 in
theorem refHas_c (N n : Nat) (x : BitVec 64) (hn : n ≤ 18446744073709551615) (w : World) :
    Calls Tryd.prog 32 #[.agg #[.int .u64 N, .int .u64 (U x)], .int .u64 n] w fun e w' => e = .returned (.bool (metM N x n)) ∧ Kp no w w' := by
  have H := (SL.start w).alloc [.int .u64 N, .int .u64 (U x)] 50
  have hH := Lib.hid H
  clear H
  by_cases h1 : n < N
  · have hr : metM N x n = true := by unfold metM; rw [decide_eq_true h1]; rfl
    rw [hr]
    go_enter Tryd.func32, Tryd.ntmps32
    go_wp2_with fail
    go_ret
    exact ⟨rfl, hH.out.kp (.there (.here _ _))⟩
  · by_cases h2 : N < n
    · have hr : metM N x n = x.getLsbD (n - N - 1) := by unfold metM; rw [decide_eq_false h1, decide_eq_true h2]; simp
      rw [hr]
      have hb := Lib.hid (fun V => refBit_c x (n - N - 1) V)
      obtain ⟨k, hk⟩ : ∃ k, n - N - 1 = k := ⟨_, rfl⟩
      rw [hk] at hb ⊢
      have e1 : (n : Int) - (N : Int) - 1 = (k : Int) := by omega
      generalize x.getLsbD k = r at *
      clear hk hr
      go_enter Tryd.func32, Tryd.ntmps32
      go_wp2_with fail
      refine (hb.out _).mono ?_
      rintro e w3 ⟨rfl, rfl⟩
      clear hb
      go_wp2_with fail
      go_ret
      exact ⟨rfl, hH.out.kp (.there (.here _ _))⟩
    · have hr : metM N x n = false := by unfold metM; rw [decide_eq_false h1, decide_eq_false h2]; rfl
      rw [hr]
      go_enter Tryd.func32, Tryd.ntmps32
      go_wp2_with fail
      go_ret
      exact ⟨rfl, hH.out.kp (.there (.here _ _))⟩

set_option maxHeartbeats 2000000 in
theorem refRoom_c (N n m : Int) (h0 : 0 ≤ N) (h1 : N ≤ 4611686018427389000) (w : World) :
    Calls Tryd.prog 33 #[.agg #[.int .u64 N, .int .u64 m], .int .u64 n] w fun e w' => e = .returned (.bool (roomM N n)) ∧ Kp no w w' := by
  have hk := Lib.hid ((Kp.refl no w).alloc (.cells #[.int .u64 N, .int .u64 m] 50))
  have u1 : IntKind.u64.wrap (N + 64) = N + 64 := by rw [IntKind.wrap_u64]; omega
  obtain ⟨q1, e1⟩ : ∃ q1, decide (n < 4611686018427387904) = q1 := ⟨_, rfl⟩
  obtain ⟨q2, e2⟩ : ∃ q2, decide (n < N + 64) = q2 := ⟨_, rfl⟩
  unfold roomM
  rw [e1, e2]
  clear h0 h1
  go_enter Tryd.func33, Tryd.ntmps33
  cases q1
  · go_wp2_with fail
    go_ret
    exact ⟨rfl, hk.out⟩
  · go_wp2_with fail
    go_ret
    exact ⟨rfl, hk.out⟩

/-- What is counted, and what is left to count. -/
structure CntR (c k r y : Nat) : Prop where
  eq : r + sdig 2 (64 - k) y = c
theorem CntR.start (z : Nat) : CntR (cntN z) 0 0 z := ⟨by unfold cntN; rw [Nat.zero_add]⟩
theorem CntR.step {c k r y : Nat} (h : CntR c k r y) (hk : k < 64) : CntR c (k + 1) (r + y % 2) (y / 2) := ⟨by
  have := h.eq
  rw [show 64 - k = 64 - (k + 1) + 1 by omega, sdig] at this
  omega⟩
theorem CntR.fin {c r y : Nat} (h : CntR c 64 r y) : r = c := by have := h.eq; simpa [sdig] using this

set_option maxHeartbeats 2000000 in
theorem refCount_c (x : BitVec 64) (w : World) : Calls Tryd.prog 43 #[.int .u64 (U x)] w fun e w' => e = .returned (.int .i64 (cntN x.toNat)) ∧ w = w' := by
  obtain ⟨z, hz⟩ : ∃ z, x.toNat = z := ⟨_, rfl⟩
  have hz1 : z ≤ 18446744073709551615 := by have := x.isLt; omega
  have hu : U x = (z : Int) := by unfold U; rw [hz]
  rw [hu, hz]
  clear hu hz
  have hc64 : cntN z ≤ 64 := cnt_le 64 z
  have hc0 := CntR.start z
  generalize cntN z = c at *
  go_enter Tryd.func43, Tryd.ntmps43
  go_wp2_with fail
  go_loopw [4, 3, 0] (fun t s m V => ∃ (k r y : Nat), k ≤ 64 ∧ t = .int .i64 (k : Int) ∧ s = .int .i64 (r : Int) ∧ m = .int .u64 (y : Int) ∧ CntR c k r y ∧ r ≤ k ∧ y ≤ 18446744073709551615 ∧ V = w) (fun t _ _ _ => 64 - (intOf t).toNat)
  case atStart => exact ⟨0, 0, z, by omega, rfl, rfl, rfl, hc0, by omega, hz1, by trivial⟩
  case round =>
    obtain ⟨k, r, y, hk, rfl, rfl, rfl, hs, hrk, hy, hV⟩ := hrel
    subst hV
    by_cases hlt : k < 64
    · have e1 : (y : Int) % 2 = ((y % 2 : Nat) : Int) := by omega
      have e2 : (y : Int) / 2 = ((y / 2 : Nat) : Int) := by omega
      have hs2 := hs.step hlt
      have m2 : y % 2 ≤ 1 := by omega
      have d2 : y / 2 ≤ 18446744073709551615 := by omega
      generalize y % 2 = y1 at *
      generalize y / 2 = y2 at *
      clear hs hc0
      go_wp2_with fail
      go_roundw
      case rel => exact ⟨k + 1, r + y1, y2, by omega, by go_num, by go_num, rfl, hs2, by omega, d2, by trivial⟩
      case measure => (simp [intOf]; try omega)
    · obtain rfl : k = 64 := by omega
      have hrc := hs.fin
      subst hrc
      clear hs hc0
      go_wp2_with fail
      go_ret
      exact ⟨rfl, by trivial⟩
end Go.Proofs.YtkoajbmomipjkaaDoor
