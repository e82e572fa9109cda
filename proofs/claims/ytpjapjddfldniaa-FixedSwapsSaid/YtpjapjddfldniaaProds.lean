/- The walks of the laws FixedProducts, FixedFloors and FixedSwaps. -/
import Derived.Test.YtpjapjddfldniaaRefProd
import Derived.Test.YtpjapjddfldniaaWf
namespace Go.Proofs.Ytpjapjddfldniaa
open Go.RowKit

theorem fixedProducts_w (a b : Int) (w : World) (ha : (Lit.int .i64 a).wf = true) (hb : (Lit.int .i64 b).wf = true) :
    Calls Try.prog 4 #[.int .i64 a, .int .i64 b] w fun e w' => e = .returned (.bool true) ∧ Below w.heap.size w w' := by
  obtain ⟨a0, a1⟩ := wf_i64 ha
  obtain ⟨b0, b1⟩ := wf_i64 hb
  clear ha hb
  go_enter Try.func4, Try.ntmps4
  go_wp2_with fail
  refine (mul_c a b _ a0 a1 b0 b1).mono ?_
  rintro e w1 ⟨rfl, k1⟩
  go_wp2_with fail
  refine (refMul_c a b _).mono ?_
  rintro e w' ⟨rfl, rfl⟩
  go_wp2_with fail
  refine (div_c a b _ a0 a1 b0 b1).mono ?_
  rintro e w2 ⟨rfl, k2⟩
  go_wp2_with fail
  refine (refDiv_c a b _).mono ?_
  rintro e w' ⟨rfl, rfl⟩
  go_wp2_with fail
  go_ret
  exact ⟨ret_b (by simp), (k1.trans k2).self_below⟩

theorem is_c (n m e0 : Int) (w : World) : Calls Try.prog 21 #[.int .i64 n, .int .i64 e0, .int .i64 m] w fun e w' => e = .returned (.bool (n == m && e0 == 0)) ∧ w = w' := by
  go_enter Try.func21, Try.ntmps21
  go_wp2
  all_goals (go_ret; exact ⟨ret_b (by simp_all), rfl⟩)

theorem alive_c (w : World) : Calls Try.prog 20 #[] w fun e w' => e = .returned (.bool true) ∧ Kp no w w' := by
  have h1 := fun w => mul_c 98304 (-1) w (by omega) (by omega) (by omega) (by omega)
  have h2 := fun w => mul_c 1 1 w (by omega) (by omega) (by omega) (by omega)
  have h3 := fun w => mul_c (-1) 1 w (by omega) (by omega) (by omega) (by omega)
  rw [show mulV 98304 (-1) = -2 from by decide +kernel, show mulE 98304 (-1) = 0 from by decide +kernel] at h1
  rw [show mulV 1 1 = 0 from by decide +kernel, show mulE 1 1 = 0 from by decide +kernel] at h2
  rw [show mulV (-1) 1 = -1 from by decide +kernel, show mulE (-1) 1 = 0 from by decide +kernel] at h3
  have h1' := Lib.hid h1
  have h2' := Lib.hid h2
  have h3' := Lib.hid h3
  clear h1 h2 h3
  go_enter Try.func20, Try.ntmps20
  go_wp2_with fail
  refine (h1'.out _).mono ?_
  rintro e w1 ⟨rfl, k1⟩
  go_wp2_with fail
  refine (h2'.out _).mono ?_
  rintro e w2 ⟨rfl, k2⟩
  go_wp2_with fail
  refine (h3'.out _).mono ?_
  rintro e w3 ⟨rfl, k3⟩
  go_wp2_with (refine (is_c _ _ _ _).mono ?_; rintro e w' ⟨rfl, rfl⟩)
  go_ret
  exact ⟨rfl, (k1.trans k2).trans k3⟩

theorem floors_law (x by_ : Int) (hx0 : -1099511627776 < x) (hx1 : x < 1099511627776) (hy0 : 1 ≤ by_) (hy1 : by_ ≤ 4294967296) :
    ∃ Q P M : Int, divV x by_ = Q ∧ divE x by_ = 0 ∧ wrap64 (Q * by_) = P ∧ 0 ≤ x * 65536 - P ∧ x * 65536 - P < by_ ∧ mulV x by_ = M ∧ mulE x by_ = 0 ∧ (M < 0 ↔ x < 0) ∧ -144115188075855872 ≤ P ∧ P ≤ 72057594037927936 := by
  have e1 := Int.mul_ediv_add_emod (x * 65536) by_
  have e2 := Int.emod_nonneg (x * 65536) (show by_ ≠ 0 by omega)
  have e3 := Int.emod_lt_of_pos (x * 65536) (show 0 < by_ by omega)
  have hxb : inB x = true := inB_iff.2 (by omega)
  have hyb : inB by_ = true := inB_iff.2 (by omega)
  have q1 : -72057594037927936 ≤ x * 65536 / by_ := by
    refine (Int.le_ediv_iff_mul_le (by omega)).2 ?_
    have := Int.mul_le_mul_of_nonneg_left hy0 (show (0 : Int) ≤ 72057594037927936 by omega)
    omega
  have q2 : x * 65536 / by_ < 72057594037927936 := (Int.ediv_lt_iff_lt_mul (by omega)).2 (by
    have := Int.mul_le_mul_of_nonneg_left hy0 (show (0 : Int) ≤ 72057594037927936 by omega)
    omega)
  have hdq : divQ x by_ = x * 65536 / by_ := by simp only [divQ, if_neg (show ¬ by_ < 0 by omega)]
  have hdin : inB (divQ x by_) = true := by rw [hdq]; exact inB_iff.2 (by omega)
  obtain ⟨d1, d2⟩ := divV_of (a := x) (b := by_) (by omega) (by rw [hxb, hyb]; rfl)
  obtain ⟨m1, m2⟩ := mulV_of (a := x) (b := by_) (by rw [hxb, hyb]; rfl)
  have p1 : x * by_ ≤ 1099511627776 * 4294967296 := by
    by_cases h : 0 ≤ x
    · exact Int.le_trans (Int.mul_le_mul_of_nonneg_left hy1 h) (Int.mul_le_mul_of_nonneg_right (by omega) (by omega))
    · have := Int.mul_le_mul_of_nonpos_left (show x ≤ 0 by omega) hy0
      omega
  have p2 : -(1099511627776 * 4294967296) ≤ x * by_ := by
    have h1 := Int.mul_le_mul_of_nonneg_right (show -1099511627776 ≤ x by omega) (show 0 ≤ by_ by omega)
    have h2 := Int.mul_le_mul_of_nonneg_left hy1 (show (0 : Int) ≤ 1099511627776 by omega)
    omega
  have hmin : inB (x * by_ / 65536) = true := inB_iff.2 (by omega)
  rw [inV_of hdin, hdq] at d1
  rw [inE_of hdin] at d2
  rw [inV_of hmin] at m1
  rw [inE_of hmin] at m2
  refine ⟨_, x * 65536 - x * 65536 % by_, _, d1, d2, ?_, by omega, by omega, m1, m2, ?_, by omega, by omega⟩
  · rw [Int.mul_comm]; unfold wrap64; omega
  · constructor
    · intro h
      apply Int.not_le.1; intro hx
      have := Int.mul_nonneg hx (show 0 ≤ by_ by omega)
      omega
    · intro h
      have := Int.mul_le_mul_of_nonpos_left (show x ≤ 0 by omega) hy0
      omega

theorem fixedFloors_w (a b : Int) (w : World) (ha : (Lit.int .i64 a).wf = true) (hb : (Lit.int .u32 b).wf = true) :
    Calls Try.prog 5 #[.int .i64 a, .int .u32 b] w fun e w' => e = .returned (.bool true) ∧ Below w.heap.size w w' := by
  obtain ⟨a0, a1⟩ := wf_i64 ha
  obtain ⟨b0, b1⟩ := wf_u32 hb
  clear ha hb
  obtain ⟨x, hx⟩ : ∃ x, a.tmod 1099511627776 = x := ⟨_, rfl⟩
  have hx0 : -1099511627776 < x := by rw [← hx]; have := Int.tmod_lt_of_pos a (b := 1099511627776) (by omega); have := Int.lt_tmod_of_pos a (b := 1099511627776) (by omega); omega
  have hx1 : x < 1099511627776 := by rw [← hx]; exact Int.tmod_lt_of_pos a (by omega)
  have hxe : 0 ≤ a → a % 1099511627776 = x := fun h => by rw [← hx]; exact (Int.tmod_eq_emod_of_nonneg h).symm
  obtain ⟨Q, P, M, h1, h2, h3, h4, h5, h6, h7, h8, h9, h10⟩ := floors_law x (1 + b) hx0 hx1 (by omega) (by omega)
  have hD := fun w => div_c x (1 + b) w (by omega) (by omega) (by omega) (by omega)
  have hM := fun w => mul_c x (1 + b) w (by omega) (by omega) (by omega) (by omega)
  rw [h1, h2] at hD
  rw [h6, h7] at hM
  have hD' := Lib.hid hD
  have hM' := Lib.hid hM
  have h8' : (decide (M < 0) == decide (x < 0)) = true := by simp [h8]
  have f1 : x - x / 65536 * 65536 < 65536 := by omega
  have f2 : 0 ≤ x - x / 65536 * 65536 := by omega
  have goal : ∀ y : Int, y = x → Calls Try.prog 5 #[.int .i64 a, .int .u32 b] w fun e w' => e = .returned (.bool true) ∧ Below w.heap.size w w' := by
    intro y hy
    clear h1 h2 hD hM h6 h7
    by_cases hp : 0 ≤ a
    · have hx2 := hxe hp
      clear hxe hx hy
      go_enter Try.func5, Try.ntmps5
      go_wp2_with fail
      refine (alive_c _).mono ?_
      rintro e w1 ⟨rfl, k1⟩
      go_wp2_with fail
      refine (hD'.out _).mono ?_
      rintro e w2 ⟨rfl, k2⟩
      go_wp2_with fail
      refine (hM'.out _).mono ?_
      rintro e w3 ⟨rfl, k3⟩
      go_wp2_with (refine (floor_c _ _).mono ?_; rintro e w' ⟨rfl, rfl⟩)
      go_ret
      exact ⟨ret_b (by simp), ((k1.trans k2).trans k3).self_below⟩
    · clear hxe hy
      go_enter Try.func5, Try.ntmps5
      go_wp2_with fail
      refine (alive_c _).mono ?_
      rintro e w1 ⟨rfl, k1⟩
      go_wp2_with fail
      refine (hD'.out _).mono ?_
      rintro e w2 ⟨rfl, k2⟩
      go_wp2_with fail
      refine (hM'.out _).mono ?_
      rintro e w3 ⟨rfl, k3⟩
      go_wp2_with (refine (floor_c _ _).mono ?_; rintro e w' ⟨rfl, rfl⟩)
      go_ret
      exact ⟨ret_b (by simp), ((k1.trans k2).trans k3).self_below⟩
  exact goal x rfl

theorem addV_comm (a b : Int) : addV a b = addV b a ∧ addE a b = addE b a := by
  unfold addV addE
  rw [Bool.and_comm (inB a) (inB b), Int.add_comm a b]
  exact ⟨rfl, rfl⟩
theorem mulV_comm (a b : Int) : mulV a b = mulV b a ∧ mulE a b = mulE b a := by
  unfold mulV mulE
  rw [Bool.and_comm, Int.mul_comm]
  exact ⟨rfl, rfl⟩
theorem one_in : inB 65536 = true := by decide +kernel
theorem mulV_one {a : Int} (h : inB a = true) : mulV a 65536 = a ∧ mulE a 65536 = 0 := by
  obtain ⟨m1, m2⟩ := mulV_of (a := a) (b := 65536) (by rw [h, one_in]; rfl)
  rw [Int.mul_ediv_cancel _ (by omega)] at m1 m2
  rw [m1, m2, inV_of h, inE_of h]
  exact ⟨rfl, rfl⟩
theorem divV_one {a : Int} (h : inB a = true) : divV a 65536 = a ∧ divE a 65536 = 0 := by
  obtain ⟨m1, m2⟩ := divV_of (a := a) (b := 65536) (by omega) (by rw [h, one_in]; rfl)
  have e : divQ a 65536 = a := by simp only [divQ]; rw [if_neg (by omega), Int.mul_ediv_cancel _ (by omega)]
  rw [e] at m1 m2
  rw [m1, m2, inV_of h, inE_of h]
  exact ⟨rfl, rfl⟩

set_option maxRecDepth 100000 in
theorem fixedSwaps_w (a b : Int) (w : World) (ha : (Lit.int .i64 a).wf = true) (hb : (Lit.int .i64 b).wf = true) :
    Calls Try.prog 6 #[.int .i64 a, .int .i64 b] w fun e w' => e = .returned (.bool true) ∧ Below w.heap.size w w' := by
  obtain ⟨a0, a1⟩ := wf_i64 ha
  obtain ⟨b0, b1⟩ := wf_i64 hb
  clear ha hb
  obtain ⟨c1, c2⟩ := addV_comm a b
  obtain ⟨c3, c4⟩ := mulV_comm a b
  have hA2 := fun w => add_c b a w
  have hM2 := fun w => mul_c b a w b0 b1 a0 a1
  rw [← c1, ← c2] at hA2
  rw [← c3, ← c4] at hM2
  have hA2' := Lib.hid hA2
  have hM2' := Lib.hid hM2
  have hM1 := Lib.hid (fun w => mul_c a b w a0 a1 b0 b1)
  generalize mulV a b = m at *
  generalize mulE a b = me at *
  clear c1 c2 c3 c4 hA2 hM2
  have hO := fun w => mul_c a 65536 w a0 a1 (by omega) (by omega)
  have hQ := fun w => div_c a 65536 w a0 a1 (by omega) (by omega)
  cases hab : ((inB a && inB b) && inB (a + b))
  · have e2 : addE a b = 10 := by simp only [addE, hab]; rfl
    have hA1 := fun w => add_c a b w
    rw [e2] at hA1
    rw [e2] at hA2'
    generalize addV a b = s at *
    have hA1' := Lib.hid hA1
    clear e2 hab hA1
    cases hin : inB a
    · have hno := inB_not.1 hin
      obtain ⟨o1, o2⟩ := mulV_no (a := a) (b := 65536) (by rw [hin]; rfl)
      obtain ⟨o3, o4⟩ := divV_no (a := a) (b := 65536) (by omega) (by rw [hin]; rfl)
      rw [o1, o2] at hO
      rw [o3, o4] at hQ
      have hO' := Lib.hid hO
      have hQ' := Lib.hid hQ
      clear o1 o2 o3 o4 hO hQ
      rcases hno with hno | hno
      all_goals
        go_enter Try.func6, Try.ntmps6
        go_wp2_with fail
        refine (alive_c _).mono ?_
        rintro e w1 ⟨rfl, k1⟩
        go_wp2_with fail
        refine (hA1'.out _).mono ?_
        rintro e w2 ⟨rfl, k2⟩
        go_wp2_with fail
        refine (hA2'.out _).mono ?_
        rintro e w3 ⟨rfl, k3⟩
        go_wp2_with fail
        refine (hM1.out _).mono ?_
        rintro e w4 ⟨rfl, k4⟩
        go_wp2_with fail
        refine (hM2'.out _).mono ?_
        rintro e w5 ⟨rfl, k5⟩
        go_wp2_with fail
        refine (hO'.out _).mono ?_
        rintro e w6 ⟨rfl, k6⟩
        go_wp2_with fail
        refine (hQ'.out _).mono ?_
        rintro e w7 ⟨rfl, k7⟩
        go_wp2_with fail
        go_ret
        exact ⟨rfl, ((((((k1.trans k2).trans k3).trans k4).trans k5).trans k6).trans k7).self_below⟩
    · obtain ⟨hi1, hi2⟩ := inB_iff.1 hin
      obtain ⟨o1, o2⟩ := mulV_one hin
      obtain ⟨o3, o4⟩ := divV_one hin
      rw [o1, o2] at hO
      rw [o3, o4] at hQ
      have hO' := Lib.hid hO
      have hQ' := Lib.hid hQ
      clear o1 o2 o3 o4 hO hQ
      go_enter Try.func6, Try.ntmps6
      go_wp2_with fail
      refine (alive_c _).mono ?_
      rintro e w1 ⟨rfl, k1⟩
      go_wp2_with fail
      refine (hA1'.out _).mono ?_
      rintro e w2 ⟨rfl, k2⟩
      go_wp2_with fail
      refine (hA2'.out _).mono ?_
      rintro e w3 ⟨rfl, k3⟩
      go_wp2_with fail
      refine (hM1.out _).mono ?_
      rintro e w4 ⟨rfl, k4⟩
      go_wp2_with fail
      refine (hM2'.out _).mono ?_
      rintro e w5 ⟨rfl, k5⟩
      go_wp2_with fail
      refine (hO'.out _).mono ?_
      rintro e w6 ⟨rfl, k6⟩
      go_wp2_with fail
      refine (hQ'.out _).mono ?_
      rintro e w7 ⟨rfl, k7⟩
      go_wp2_with (refine (is_c _ _ _ _).mono ?_; rintro e w' ⟨rfl, rfl⟩)
      go_ret
      exact ⟨rfl, ((((((k1.trans k2).trans k3).trans k4).trans k5).trans k6).trans k7).self_below⟩
  · have e1 : addV a b = a + b := by simp only [addV, hab]; rfl
    have e2 : addE a b = 0 := by simp only [addE, hab]; rfl
    have hA1 := fun w => add_c a b w
    rw [e1, e2] at hA1
    rw [e1, e2] at hA2'
    obtain ⟨hab', hs⟩ := Bool.and_eq_true _ _ ▸ hab
    obtain ⟨hin, hbn⟩ := Bool.and_eq_true _ _ ▸ hab'
    have hS := fun w => sub_c (a + b) b w
    have s1 : addV (a + b) (-b) = a := by simp only [addV, inB_neg, hs, hbn]; rw [show a + b + -b = a by omega, hin]; rfl
    have s2 : addE (a + b) (-b) = 0 := by simp only [addE, inB_neg, hs, hbn]; rw [show a + b + -b = a by omega, hin]; rfl
    rw [s1, s2] at hS
    generalize a + b = s at *
    have hA1' := Lib.hid hA1
    have hS' := Lib.hid hS
    obtain ⟨hi1, hi2⟩ := inB_iff.1 hin
    obtain ⟨o1, o2⟩ := mulV_one hin
    obtain ⟨o3, o4⟩ := divV_one hin
    rw [o1, o2] at hO
    rw [o3, o4] at hQ
    have hO' := Lib.hid hO
    have hQ' := Lib.hid hQ
    clear o1 o2 o3 o4 hO hQ e1 e2 hA1 hS s1 s2 hab' hab hs hbn hin
    go_enter Try.func6, Try.ntmps6
    go_wp2_with fail
    refine (alive_c _).mono ?_
    rintro e w1 ⟨rfl, k1⟩
    go_wp2_with fail
    refine (hA1'.out _).mono ?_
    rintro e w2 ⟨rfl, k2⟩
    go_wp2_with fail
    refine (hA2'.out _).mono ?_
    rintro e w3 ⟨rfl, k3⟩
    go_wp2_with fail
    refine (hM1.out _).mono ?_
    rintro e w4 ⟨rfl, k4⟩
    go_wp2_with fail
    refine (hM2'.out _).mono ?_
    rintro e w5 ⟨rfl, k5⟩
    go_wp2_with fail
    refine (hS'.out _).mono ?_
    rintro e w8 ⟨rfl, k8⟩
    go_wp2_with fail
    refine (hO'.out _).mono ?_
    rintro e w6 ⟨rfl, k6⟩
    go_wp2_with fail
    refine (hQ'.out _).mono ?_
    rintro e w7 ⟨rfl, k7⟩
    go_wp2_with (refine (is_c _ _ _ _).mono ?_; rintro e w' ⟨rfl, rfl⟩)
    go_ret
    exact ⟨rfl, (((((((k1.trans k2).trans k3).trans k4).trans k5).trans k8).trans k6).trans k7).self_below⟩
end Go.Proofs.Ytpjapjddfldniaa
