/- The walk of the law SwapNames. -/
import Derived.Test.YtamhlmfcnnomgaaAlive
import Derived.Test.YtamhlmfcnnomgaaEnds
namespace Go.Proofs.Ytamhlmfcnnomgaa
open Go.RowKit
set_option linter.unusedVariables false

theorem eql_span (a b c e : Int) (w : World) : (binOp .eql 29 (.agg #[.int .i64 a, .int .i64 b]) (.agg #[.int .i64 c, .int .i64 e])).run Try.prog w = .ok (.bool (decide (a = c ∧ b = e))) w := by
  rw [run_eql_struct, eq_span 9998 a b c e w]
  rfl

theorem own_three {w : World} {base : Nat} {e : TypeId} {v : Value} {x y z : Nat × Nat} (h : OwnK w base e 2 v 3 (sps [x, y, z])) :
    ∃ g cap, v = .slice (some ⟨g, 0, none⟩) 3 cap ∧ base ≤ g ∧ w.cell? ⟨g, 0, none⟩ = some (.int .i64 x.1) ∧ w.cell? ⟨g, 1, none⟩ = some (.int .i64 x.2) ∧ w.cell? ⟨g, 2, none⟩ = some (.int .i64 y.1) ∧ w.cell? ⟨g, 3, none⟩ = some (.int .i64 y.2) ∧
      w.cell? ⟨g, 4, none⟩ = some (.int .i64 z.1) ∧ w.cell? ⟨g, 5, none⟩ = some (.int .i64 z.2) ∧ 3 ≤ cap ∧ cap ≤ 9223372036854775807 := by
  rcases h.form with ⟨_, h0, _⟩ | ⟨g, cap, rfl, h1, h2, h3, h4, h5, h6, _⟩
  · cases h0
  · exact ⟨g, cap, rfl, h1, h6 0 (by omega), h6 1 (by omega), h6 2 (by omega), h6 3 (by omega), h6 4 (by omega), h6 5 (by omega), h3, by simpa [maxLen] using h4⟩

set_option maxRecDepth 100000 in
set_option maxHeartbeats 4000000 in
theorem swapNames_c (w : World) : Calls Try.prog 9 #[] w fun e w' => e = .returned (.bool true) ∧ Kp no w w' := by
  have hA := fun w => ends_c 1 3 5 w (by omega) (by omega) (by omega) (by omega)
  rw [show endsOf 1 3 5 = [(0, 2), (2, 5), (0, 0)] from by decide +kernel] at hA
  have hB := fun w => ends_c 2 3 5 w (by omega) (by omega) (by omega) (by omega)
  rw [show endsOf 2 3 5 = [(0, 1), (1, 3), (3, 5)] from by decide +kernel] at hB
  have hA' := Lib.hid hA
  have hB' := Lib.hid hB
  clear hA hB
  have hr0 := fun w => Rounds_c 1 1 w
  rw [if_pos (show okP 1 1 0 from by decide +kernel), show roundsOf (1 : Int).toNat (1 : Int).toNat = 1 from by decide +kernel] at hr0
  replace hr0 := Lib.hid hr0
  have hr1 := fun w => Rounds_c 1 2 w
  rw [if_pos (show okP 1 2 0 from by decide +kernel), show roundsOf (1 : Int).toNat (2 : Int).toNat = 2 from by decide +kernel] at hr1
  replace hr1 := Lib.hid hr1
  have hr2 := fun w => Rounds_c 1 64 w
  rw [if_pos (show okP 1 64 0 from by decide +kernel), show roundsOf (1 : Int).toNat (64 : Int).toNat = 7 from by decide +kernel] at hr2
  replace hr2 := Lib.hid hr2
  have hr3 := fun w => Rounds_c 2 64 w
  rw [if_pos (show okP 2 64 0 from by decide +kernel), show roundsOf (2 : Int).toNat (64 : Int).toNat = 1 from by decide +kernel] at hr3
  replace hr3 := Lib.hid hr3
  have hr4 := fun w => Rounds_c 3 1 w
  rw [if_neg (show ¬ okP 3 1 0 from by decide +kernel)] at hr4
  replace hr4 := Lib.hid hr4
  have hr5 := fun w => Rounds_c 1 65 w
  rw [if_neg (show ¬ okP 1 65 0 from by decide +kernel)] at hr5
  replace hr5 := Lib.hid hr5
  have hs0 := fun w => sends_any 1 3 5 3 0 w (by omega) (by omega)
  rw [show askE 1 3 5 3 0 = 2 from by decide +kernel, show askL (frB 3) 1 3 5 3 0 = [] from by decide +kernel] at hs0
  replace hs0 := Lib.hid hs0
  have hs1 := fun w => hears_any 1 3 5 0 2 w (by omega) (by omega)
  rw [show askE 1 3 5 0 2 = 2 from by decide +kernel, show askL (toB 0) 1 3 5 0 2 = [] from by decide +kernel] at hs1
  replace hs1 := Lib.hid hs1
  have hs2 := fun w => held_any 1 3 5 0 3 w (by omega) (by omega)
  rw [show heldE 1 3 5 0 3 = 2 from by decide +kernel] at hs2
  have hv2 : heldV 1 3 5 0 3 = span (0, 0) := by
    unfold heldV
    rw [show heldE 1 3 5 0 3 = 2 from by decide +kernel]
    rfl
  rw [hv2] at hs2
  replace hs2 := Lib.hid hs2
  clear hv2
  have hs3 := fun w => held_any 2 3 4097 0 0 w (by omega) (by omega)
  rw [show heldE 2 3 4097 0 0 = 260 from by decide +kernel] at hs3
  have hv3 : heldV 2 3 4097 0 0 = span (0, 0) := by
    unfold heldV
    rw [show heldE 2 3 4097 0 0 = 260 from by decide +kernel]
    rfl
  rw [hv3] at hs3
  replace hs3 := Lib.hid hs3
  clear hv3
  have hs4 := fun w => sends_any 2 3 5 (-1) 0 w (by omega) (by omega)
  rw [show askE 2 3 5 (-1) 0 = 2 from by decide +kernel, show askL (frB (-1)) 2 3 5 (-1) 0 = [] from by decide +kernel] at hs4
  replace hs4 := Lib.hid hs4
  have hs5 := fun w => sends_any 0 3 5 9 0 w (by omega) (by omega)
  rw [show askE 0 3 5 9 0 = 260 from by decide +kernel, show askL (frB 9) 0 3 5 9 0 = [] from by decide +kernel] at hs5
  replace hs5 := Lib.hid hs5
  have hs6 := fun w => held_any 1 3 5 1 2 w (by omega) (by omega)
  rw [show heldE 1 3 5 1 2 = 0 from by decide +kernel] at hs6
  have hv6 : heldV 1 3 5 1 2 = span (2, 5) := by
    unfold heldV
    rw [show heldE 1 3 5 1 2 = 0 from by decide +kernel]
    exact congrArg span (by decide +kernel)
  rw [hv6] at hs6
  replace hs6 := Lib.hid hs6
  clear hv6
  have hs7 := fun w => sends_any 1 1 5 0 0 w (by omega) (by omega)
  rw [show askE 1 1 5 0 0 = 0 from by decide +kernel, show askL (frB 0) 1 1 5 0 0 = [] from by decide +kernel] at hs7
  replace hs7 := Lib.hid hs7
  have hn1 := Lib.hid (fun w => all_no 1 0 5 w (by decide +kernel))
  have hn2 := Lib.hid (fun w => ends_no 1 1 (-1) w (by decide +kernel))
  have hc1 := fun w => check_c 3 1 1 w
  rw [ckE_no (show ¬ okP 3 1 1 from by decide +kernel)] at hc1
  replace hc1 := Lib.hid hc1
  have hc2 := fun w => check_c 2 64 4096 w
  rw [ckE_ok (show okP 2 64 4096 from by decide +kernel)] at hc2
  replace hc2 := Lib.hid hc2
  have hq := fun a b c e w => eql_span a b c e w
  have hguard : ∀ (x y : Operand) (xs ys : Array Value) (w : World), (eqGuard .eql 29 x y (.agg xs) (.agg ys)).run Try.prog w = .ok () w := fun x y xs ys w => run_eqGuard_agg w .eql _ x y xs ys (by kernel_rfl)
  go_enter Try.func9, Try.ntmps9
  go_wp2_with fail
  refine (hA'.out _).mono ?_
  rintro e w1 ⟨v, rfl, ho1, k1⟩
  have ho1' := Lib.hid ho1
  have k1' := Lib.hid k1
  clear ho1 k1
  go_wp2_with fail
  refine (hB'.out _).mono ?_
  rintro e w2 ⟨v2, rfl, ho2, k2⟩
  obtain ⟨g1, cap1, rfl, -, a0, a1, a2, a3, a4, a5, l1, l2⟩ := own_three (ho1'.out.no k2)
  obtain ⟨g2, cap2, rfl, -, b0, b1, b2, b3, b4, b5, m1, m2⟩ := own_three ho2
  have k2' := Lib.hid (k1'.out.trans k2)
  clear ho2 k2
  go_wp2_with fail
  refine (hr0.out _).mono ?_
  rintro e x0 ⟨rfl, k3⟩
  have k3' := Lib.hid (k2'.out.trans k3)
  clear k3 a0 a1 a2 a3 a4 a5 b0 b1 b2 b3 b4 b5
  go_wp2_with fail
  refine (hr1.out _).mono ?_
  rintro e x1 ⟨rfl, k4⟩
  have k4' := Lib.hid (k3'.out.trans k4)
  clear k4
  go_wp2_with fail
  refine (hr2.out _).mono ?_
  rintro e x2 ⟨rfl, k5⟩
  have k5' := Lib.hid (k4'.out.trans k5)
  clear k5
  go_wp2_with fail
  refine (hr3.out _).mono ?_
  rintro e x3 ⟨rfl, k6⟩
  have k6' := Lib.hid (k5'.out.trans k6)
  clear k6
  go_wp2_with fail
  refine (hr4.out _).mono ?_
  rintro e x4 ⟨rfl, k7⟩
  have k7' := Lib.hid (k6'.out.trans k7)
  clear k7
  go_wp2_with fail
  refine (hr5.out _).mono ?_
  rintro e x5 ⟨rfl, k8⟩
  have k8' := Lib.hid (k7'.out.trans k8)
  clear k8
  go_wp2_with fail
  refine (hs0.out _).mono ?_
  rintro e y0 ⟨v, rfl, ho, k9⟩
  obtain ⟨ad0, cp0, rfl, -⟩ := ho.slice
  have k9' := Lib.hid (k8'.out.trans k9)
  clear ho k9
  go_wp2_with fail
  refine (hs1.out _).mono ?_
  rintro e y1 ⟨v, rfl, ho, k10⟩
  obtain ⟨ad1, cp1, rfl, -⟩ := ho.slice
  have k10' := Lib.hid (k9'.out.trans k10)
  clear ho k10
  go_wp2_with fail
  refine (hs2.out _).mono ?_
  rintro e y2 ⟨rfl, k11⟩
  unfold span
  have k11' := Lib.hid (k10'.out.trans k11)
  clear k11
  go_wp2_with fail
  refine (hs3.out _).mono ?_
  rintro e y3 ⟨rfl, k12⟩
  unfold span
  have k12' := Lib.hid ((k11'.out.alloc _).trans k12)
  clear k12
  go_wp2_with fail
  refine (hs4.out _).mono ?_
  rintro e y4 ⟨v, rfl, ho, k13⟩
  obtain ⟨ad4, cp4, rfl, -⟩ := ho.slice
  have k13' := Lib.hid ((k12'.out.alloc _).trans k13)
  clear ho k13
  go_wp2_with fail
  refine (hs5.out _).mono ?_
  rintro e y5 ⟨v, rfl, ho, k14⟩
  obtain ⟨ad5, cp5, rfl, -⟩ := ho.slice
  have k14' := Lib.hid (k13'.out.trans k14)
  clear ho k14
  go_wp2_with fail
  refine (hs6.out _).mono ?_
  rintro e y6 ⟨rfl, k15⟩
  unfold span
  have k15' := Lib.hid (k14'.out.trans k15)
  clear k15
  simp only []
  go_wp2_with fail
  refine (hs7.out _).mono ?_
  rintro e y7 ⟨v, rfl, ho, k16⟩
  obtain ⟨ad7, cp7, rfl, -⟩ := ho.slice
  have hcb := Lib.hid (k16.at (blk_new y6 _) (fun h => h))
  have k16' := Lib.hid ((k15'.out.alloc _).trans k16)
  clear ho k16
  go_wp2_with fail
  refine (hn1.out _).mono ?_
  rintro e w' ⟨rfl, rfl⟩
  go_wp2_with fail
  refine (hn2.out _).mono ?_
  rintro e w' ⟨rfl, rfl⟩
  go_wp2_with fail
  refine (alive_c _).mono ?_
  rintro e z1 ⟨rfl, k17⟩
  have hcz := k17.at hcb.out (fun h => h)
  obtain ⟨c0, c1, -, -⟩ := two_blk hcz
  have k17' := Lib.hid (k16'.out.trans k17)
  clear k17 hcz
  go_wp2_with fail
  refine (hc1.out _).mono ?_
  rintro e w' ⟨rfl, rfl⟩
  go_wp2_with fail
  refine (hc2.out _).mono ?_
  rintro e w' ⟨rfl, rfl⟩
  go_wp2_with fail
  go_ret
  exact ⟨rfl, k17'.out⟩
theorem swapNames_w (w : World) : Calls Try.prog 9 #[] w fun e w' => e = .returned (.bool true) ∧ Below w.heap.size w w' :=
  (swapNames_c w).mono fun _ _ h => ⟨h.1, h.2.self_below⟩
end Go.Proofs.Ytamhlmfcnnomgaa
