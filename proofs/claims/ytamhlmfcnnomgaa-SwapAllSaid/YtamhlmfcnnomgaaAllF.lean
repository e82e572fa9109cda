/- The walk of SwapAll. -/
import Derived.Test.YtamhlmfcnnomgaaRows
import Derived.Test.YtamhlmfcnnomgaaPlanS
import Derived.Test.YtamhlmfcnnomgaaAll
import Derived.BigQuiet
namespace Go.Proofs.Ytamhlmfcnnomgaa
open Go.RowKit
set_option linter.unusedVariables false

theorem neq_sp (a b : Nat) (w : World) : (binOp .neq 29 (.agg #[.int .i64 a, .int .i64 b]) (.agg #[.int .i64 a, .int .i64 b])).run Try.prog w = .ok (.bool false) w := by
  rw [run_neq_struct]
  have := eq_span 9998 a b a b w
  rw [this]
  simp
set_option maxRecDepth 100000 in
set_option maxHeartbeats 8000000 in
theorem swapAll_no (mode p s : Int) (w : World) (hok : ¬ okP mode p s) :
    Calls Try.prog 4 #[.int .i64 mode, .int .i64 p, .int .i64 s] w fun e w' => e = .returned (.bool true) ∧ Kp no w w' := by
  have c1 := Lib.hid (fun w => all_no mode p s w hok)
  have c2 := Lib.hid (fun w => ends_no mode p s w hok)
  have c3 := Lib.hid (fun w => check_c mode p s w)
  rw [ckE_no hok] at c3
  have c4 := Lib.hid (fun w => rmay_c mode p s w)
  rw [decide_eq_false hok] at c4
  obtain ⟨Q, hQ, hQ2⟩ : ∃ Q : Int, (∀ w, Calls Try.prog 13 #[.int .i64 mode, .int .i64 p] w fun e w' => e = .returned (.int .i64 Q) ∧ Kp no w w') ∧ (∀ w, Calls Try.prog 16 #[.int .i64 mode, .int .i64 p] w fun e w' => e = .returned (.int .i64 Q) ∧ w = w') := by
    by_cases h : okP mode p 0
    · obtain ⟨M, rfl⟩ := Int.eq_ofNat_of_zero_le (show 0 ≤ mode by unfold okP at h; omega)
      obtain ⟨P, rfl⟩ := Int.eq_ofNat_of_zero_le (show 0 ≤ p by unfold okP at h; omega)
      have hm : M = 1 ∨ M = 2 := by unfold okP at h; omega
      have h1 : 1 ≤ P := by unfold okP at h; omega
      have h2 : P ≤ 64 := by unfold okP at h; omega
      refine ⟨roundsOf M P, fun w => (Rounds_c M P w).mono fun e w' hh => ?_, fun w => rrounds_c M P w hm h1 h2⟩
      rw [if_pos h] at hh
      simpa using hh
    · refine ⟨0, fun w => (Rounds_c mode p w).mono fun e w' hh => ?_, fun w => rrounds_no mode p w h⟩
      rw [if_neg h] at hh
      exact hh
  have c5 := Lib.hid hQ
  have c6 := Lib.hid hQ2
  clear hok hQ hQ2
  go_enter Try.func4, Try.ntmps4
  go_wp2_with fail
  refine (c1.out _).mono ?_
  rintro e w' ⟨rfl, rfl⟩
  go_wp2_with fail
  refine (c2.out _).mono ?_
  rintro e w' ⟨rfl, rfl⟩
  go_wp2_with fail
  refine (c5.out _).mono ?_
  rintro e w1 ⟨rfl, k1⟩
  have k1' := Lib.hid k1
  clear k1
  go_wp2_with fail
  refine (c3.out _).mono ?_
  rintro e w' ⟨rfl, rfl⟩
  go_wp2_with fail
  refine (c4.out _).mono ?_
  rintro e w' ⟨rfl, rfl⟩
  go_wp2_with fail
  refine (c6.out _).mono ?_
  rintro e w' ⟨rfl, rfl⟩
  go_wp2_with fail
  go_ret
  exact ⟨rfl, k1'.out⟩
set_option maxRecDepth 100000 in
set_option maxHeartbeats 16000000 in
theorem swapAll_yes (M P T : Nat) (w : World) (hm : M = 1 ∨ M = 2) (h1 : 1 ≤ P) (h2 : P ≤ 64) (h3 : T ≤ 4096) :
    Calls Try.prog 4 #[.int .i64 M, .int .i64 P, .int .i64 T] w fun e w' => e = .returned (.bool true) ∧ Kp no w w' := by
  have hok : okP M P T := ⟨by omega, by omega, by omega, by omega, by omega⟩
  have hok0 : okP M P 0 := ⟨by omega, by omega, by omega, by omega, by omega⟩
  have c1 := Lib.hid (fun w => all_c M P T w hm h1 h2 h3)
  have c2 := Lib.hid (fun w => ends_c M P T w hm h1 h2 h3)
  have c3 := Lib.hid (fun w => check_c M P T w)
  rw [ckE_ok hok] at c3
  have c4 := Lib.hid (fun w => rmay_c M P T w)
  rw [decide_eq_true hok] at c4
  have c5 : Hid (∀ w, Calls Try.prog 13 #[.int .i64 M, .int .i64 P] w fun e w' => e = .returned (.int .i64 (roundsOf M P)) ∧ Kp no w w') := Lib.hid fun w => (Rounds_c M P w).mono fun e w' hh => by rw [if_pos hok0] at hh; simpa using hh
  have c6 := Lib.hid (fun w => rrounds_c M P w hm h1 h2)
  have c7 := Lib.hid (fun L w (h : SL w L) => plan_c M P T hm h1 h2 h3 h)
  have hr7 := rounds_le M P h1 h2
  have hr1 : 1 ≤ roundsOf M P := by unfold roundsOf; split <;> omega
  have hel : (endsOf M P T).length = P := endsPre_len M P T P
  have hee : endsOf M P T = heldRow M P T (roundsOf M P) P := rfl
  have hall : allPre M P T (roundsOf M P) = allOf M P T := rfl
  have hap := Lib.hid (fun k => allPre_succ M P T k)
  have hpl := Lib.hid (fun k => allPre_len M P T k h1 h2)
  have hml := Lib.hid (fun k => moves_len M P T k h1 h2)
  unfold PlanPost at c7
  rw [hel] at c2
  obtain ⟨N, hN⟩ : ∃ N, roundsOf M P = N := ⟨_, rfl⟩
  rw [hN] at c5 c6 c7 hr7 hr1 hee hall
  clear hN hok hok0 hel
  obtain ⟨A, hA⟩ : ∃ A, allOf M P T = A := ⟨_, rfl⟩
  rw [hA] at c1 hall
  obtain ⟨nA, hnA⟩ : ∃ nA, A.length = nA := ⟨_, rfl⟩
  have hnl : nA ≤ 28672 := by
    have := hpl.out N
    rw [hall, hnA] at this
    have : N * 4096 ≤ 7 * 4096 := Nat.mul_le_mul_right _ hr7
    omega
  rw [hnA] at c1
  have hnA' := Lib.hid hnA
  have hall' := Lib.hid hall
  have hee' := Lib.hid hee
  clear hA hnA hall hee
  have hH := Lib.hid (SL.start w)
  go_enter Try.func4, Try.ntmps4
  go_wp2_with fail
  refine (c1.out _).mono ?_
  rintro e w1 ⟨v1, rfl, o1, k1⟩
  obtain ⟨a1, p1, rfl, -⟩ := o1.slice
  have H := Lib.hid (hH.out.ofOwn k1 o1)
  clear hH o1 k1 c1
  go_wp2_with fail
  refine (c2.out _).mono ?_
  rintro e w2 ⟨v2, rfl, o2, k2⟩
  obtain ⟨a2, p2, rfl, -⟩ := o2.slice
  have H2 := Lib.hid (H.out.ofOwn k2 o2)
  clear H o2 k2 c2
  go_wp2_with fail
  refine (c5.out _).mono ?_
  rintro e w3 ⟨rfl, k3⟩
  have H3 := Lib.hid (H2.out.quiet k3)
  clear H2 k3 c5
  go_wp2_with fail
  refine (c3.out _).mono ?_
  rintro e w' ⟨rfl, rfl⟩
  go_wp2_with fail
  refine (c4.out _).mono ?_
  rintro e w' ⟨rfl, rfl⟩
  go_wp2_with fail
  refine (c6.out _).mono ?_
  rintro e w' ⟨rfl, rfl⟩
  go_wp2_with fail
  refine (c7.out _ _ H3.out).mono ?_
  rintro e w4 ⟨B, C, R, S, rfl, hR, hS, H⟩
  clear H3 c3 c4 c6 c7
  have hSl : S.length = N := by have := congrArg List.length hS; rw [List.length_map] at this; rw [this]; simp [wholeX]
  have hrow : Hid (∀ k (hk : k < S.length), (S[k]'hk).2 = movesOf M P T k) := Lib.hid fun k hk => (row_is hS hk (by simp [wholeX]; omega)).trans (wholeX_at _ (by omega))
  have hRl : N < R.length := by have := congrArg List.length hR; rw [List.length_map] at this; rw [this]; simp [wholeX]
  have hRr : (R[N]'hRl).2 = heldRow M P T N P := (row_is hR hRl (by simp [wholeX])).trans (wholeX_at _ (by omega))
  have hRr' := Lib.hid hRr
  have hn : Hid (SL w4 (.own 31 5 (.slice none 0 0) (allPre M P T 0).length (mvs (allPre M P T 0)) :: gH B R :: gM C S :: [.own 29 2 (.slice a2 P p2) P (sps (endsOf M P T)), .own 31 5 (.slice a1 nA p1) nA (mvs A), .old w no])) := Lib.hid (H.pure (q := .own 31 5 (.slice none 0 0) 0 []) (OwnK.nil _ _ _ _) (fun b h => by cases h))
  clear hR hS H hRr
  have hNz : (N : Int) + 1 - 1 = (N : Int) := by omega
  go_wp2_with fail
  go_loopw [81, 16] (fun i v wr => ∃ (k : Nat) (a : Option Addr) (c : Nat), k ≤ N ∧ i = .int .i64 (k : Int) ∧ v = .slice a (allPre M P T k).length c ∧ Hid (SL wr (.own 31 5 v (allPre M P T k).length (mvs (allPre M P T k)) :: gH B R :: gM C S :: [.own 29 2 (.slice a2 P p2) P (sps (endsOf M P T)), .own 31 5 (.slice a1 nA p1) nA (mvs A), .old w no]))) (fun i _ _ => N - (intOf i).toNat)
  case atStart => exact ⟨0, none, 0, by omega, rfl, rfl, hn⟩
  case round =>
    clear hn
    obtain ⟨k, va, vc, hk, rfl, rfl, hh⟩ := hrel
    by_cases hkN : k < N
    · have hkS : k < S.length := by omega
      have hr := grid_row hh.out (.there (.there (.here _ _))) hkS
      rw [hrow.out k hkS] at hr
      have hc0 := grid_cell hh.out (.there (.there (.here _ _))) hkS
      obtain ⟨v0, hv0⟩ : ∃ v0, (S[k]'hkS).1 = v0 := ⟨_, rfl⟩
      rw [hv0] at hr hc0
      obtain ⟨ra, rc, rfl, -, -, hrn, -⟩ := hr.slice
      have hrd := hr.rd.2.1
      have l1 := hpl.out k
      have l2 := hml.out k
      have l3 : k * 4096 ≤ 7 * 4096 := Nat.mul_le_mul_right _ (by omega)
      have hrn' := Lib.hid hrn
      have hrd' : Hid (Rd wr ra (mvs (movesOf M P T k)).length (fun i => (mvs (movesOf M P T k)).getD i undef)) := Lib.hid (by rw [mvs_len]; exact hrd)
      have hsx := Lib.hid (hap.out k)
      have hlx := Lib.hid (mvs_len (movesOf M P T k))
      have hmx := Lib.hid (mvs_app (allPre M P T k) (movesOf M P T k))
      have hxl : Hid ((allPre M P T (k + 1)).length = (allPre M P T k).length + (movesOf M P T k).length) := Lib.hid (by rw [hap.out k, List.length_append])
      clear hr hrn hrd hv0
      generalize movesOf M P T k = mk at *
      obtain ⟨nm, hnm⟩ : ∃ nm, mk.length = nm := ⟨_, rfl⟩
      obtain ⟨D, hD⟩ : ∃ D, allPre M P T k = D := ⟨_, rfl⟩
      rw [hD] at hh l1 hsx hmx hxl ⊢
      obtain ⟨nd, hnd⟩ : ∃ nd, D.length = nd := ⟨_, rfl⟩
      rw [hnd] at hh l1 hxl ⊢
      rw [hnm] at hc0 l2 hlx hxl
      clear hD hnm hnd
      go_wp2_with (at_builtin; refine sl_app hh.out rfl _ _ _ rfl elemMv (.slice va nd vc) rfl (.here _ _) (mvs mk) rfl hlx.out hrd'.out (mvs_one _) (by simp only [maxLen]; omega) (by omega) hrn'.out ?_; intro v1 w5 H1 hnil1; obtain ⟨b1, d1, rfl, -⟩ := OwnK.slice H1.head; have hH1 := Lib.hid H1; clear H1 hnil1 hrd')
      go_roundw
      case rel => exact ⟨k + 1, b1, d1, by omega, by go_num, by rw [hxl.out], Lib.hid (by rw [hxl.out, hsx.out, hmx.out]; exact hH1.out)⟩
      case measure => (simp [intOf]; try omega)
    · obtain rfl : N = k := by omega
      have hal : (allPre M P T N).length = nA := by rw [hall'.out, hnA'.out]
      rw [hal, hall'.out] at hh
      rw [hal]
      obtain ⟨hb, hcp, hv0, hhc⟩ := row_val (grid_row hh.out (.there (.here _ _)) hRl) (m := P) (by rw [hRr'.out, heldRow_len]) (by omega)
      have hcR := grid_cell hh.out (.there (.here _ _)) hRl
      rw [hv0] at hcR
      have hs := Lib.hid (fun (V : World) (hV : SL V (.own 31 5 (.slice va nA vc) nA (mvs A) :: gH B R :: gM C S :: [.own 29 2 (.slice a2 P p2) P (sps (endsOf M P T)), .own 31 5 (.slice a1 nA p1) nA (mvs A), .old w no])) => same_c a1 va A A nA nA p1 vc V hnA'.out.symm hnA'.out.symm (by rw [hnA'.out]; omega) (OwnK.rdM3 (hV.ownOf (.there (.there (.there (.there (.here _ _)))))) hnA'.out) (OwnK.rdM3 (hV.ownOf (.here _ _)) hnA'.out))
      have hda : decide (A = A) = true := by simp
      rw [hda] at hs
      have hsel : Hid (∀ V, SL V (.own 31 5 (.slice va nA vc) nA (mvs A) :: gH B R :: gM C S :: [.own 29 2 (.slice a2 P p2) P (sps (endsOf M P T)), .own 31 5 (.slice a1 nA p1) nA (mvs A), .old w no]) → ∀ j, j < P → ∃ xa xb b2 : Nat, a2 = some ⟨b2, 0, none⟩ ∧ V.cell? ⟨b2, j * 2, none⟩ = some (.int .i64 xa) ∧ V.cell? ⟨b2, j * 2 + 1, none⟩ = some (.int .i64 xb) ∧ V.cell? ⟨hb, j * 2, none⟩ = some (.int .i64 xa) ∧ V.cell? ⟨hb, j * 2 + 1, none⟩ = some (.int .i64 xb)) := Lib.hid fun V hV j hj => by
        obtain ⟨-, x3, x4⟩ := row_facts1 (grid_cell hV (.there (.here _ _)) hRl) (grid_row hV (.there (.here _ _)) hRl) hv0 (j := j) (by rw [hRr'.out, heldRow_len]; exact hj)
        have ho : OwnK V 0 29 2 (.slice a2 P p2) (heldRow M P T N P).length ((heldRow M P T N P).flatMap spCells) := by
          have h9 := hV.ownOf (.there (.there (.there (.here _ _))))
          rw [hee'.out] at h9
          rw [heldRow_len]
          exact h9
        obtain ⟨b2, e2, -, -, y3, y4⟩ := sp_at ho (j := j) (by rw [heldRow_len]; exact hj)
        rw [List.getElem_of_eq hRr'.out] at x3 x4
        exact ⟨_, _, b2, e2, y3, y4, x3, x4⟩
      have hH := Lib.hid hh.out
      clear hh hv0 hrow hRr'
      go_wp2_with fail
      refine (hs.out _ hH.out).mono ?_
      rintro e w6 ⟨rfl, nd, rfl⟩
      have hH6 := Lib.hid (hH.out.drewN nd)
      clear hH hs
      have hguard : ∀ (x y : Operand) (xs ys : Array Value) (w : World), (eqGuard .neq 29 x y (.agg xs) (.agg ys)).run Try.prog w = .ok () w := fun x y xs ys w => run_eqGuard_agg w .neq _ x y xs ys (by kernel_rfl)
      go_wp2_with fail
      go_loopw [122] (fun i wr => ∃ k : Nat, k ≤ P ∧ i = .int .i64 (k : Int) ∧ Hid (SL wr (.own 31 5 (.slice va nA vc) nA (mvs A) :: gH B R :: gM C S :: [.own 29 2 (.slice a2 P p2) P (sps (endsOf M P T)), .own 31 5 (.slice a1 nA p1) nA (mvs A), .old w no]))) (fun i _ => P - (intOf i).toNat)
      case atStart => exact ⟨0, by omega, rfl, hH6⟩
      case round =>
        clear hH6 hcR
        obtain ⟨k, hk, rfl, hh⟩ := hrel
        by_cases hkP : k < P
        · obtain ⟨xa, xb, b2, rfl, y0, y1, z0, z1⟩ := hsel.out _ hh.out k hkP
          have hq := neq_sp xa xb
          go_wp2_with fail
          go_quiet (fail)
          go_wp2_with fail
          go_roundw
          case rel => exact ⟨k + 1, by omega, by go_num, Lib.hid (by first | exact (hh.out.drewN _).drew | exact hh.out.drewN _ | exact hh.out.drew | exact hh.out.drew.drewN _ | exact hh.out.drew.drew)⟩
          case measure => (simp [intOf]; try omega)
        · obtain rfl : P = k := by omega
          go_wp2_with fail
          go_ret
          exact ⟨rfl, hh.out.kp (.there (.there (.there (.there (.there (.here _ _))))))⟩
theorem walkAll (mode p s : Int) (w : World) (w0 : (Lit.int .i64 mode).wf = true) (w1 : (Lit.int .i64 p).wf = true) (w2 : (Lit.int .i64 s).wf = true) :
    Calls Try.prog 4 #[.int .i64 mode, .int .i64 p, .int .i64 s] w fun e w' => e = .returned (.bool true) ∧ Below w.heap.size w w' := by
  by_cases h : okP mode p s
  · obtain ⟨M, rfl⟩ := Int.eq_ofNat_of_zero_le (show 0 ≤ mode by unfold okP at h; omega)
    obtain ⟨P, rfl⟩ := Int.eq_ofNat_of_zero_le (show 0 ≤ p by unfold okP at h; omega)
    obtain ⟨T, rfl⟩ := Int.eq_ofNat_of_zero_le (show 0 ≤ s by unfold okP at h; omega)
    unfold okP at h
    exact (swapAll_yes M P T w (by omega) (by omega) (by omega) (by omega)).mono fun _ _ h => ⟨h.1, h.2.self_below⟩
  · exact (swapAll_no mode p s w h).mono fun _ _ h => ⟨h.1, h.2.self_below⟩
end Go.Proofs.Ytamhlmfcnnomgaa
