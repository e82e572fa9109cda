/- The walks of the reference's Told, Last, Numbers. -/
import Derived.Test.YtkoajbmomipjkaaDoorRefC
namespace Go.Proofs.YtkoajbmomipjkaaDoor
open Go.RowKit
set_option linter.unusedVariables false

theorem many_diff {N R c1 c2 : Nat} (h1 : N ≤ R) (h2 : R ≤ 4611686018427387904) (h3 : c1 ≤ 64) (h4 : c2 ≤ 64) :
    wrap64 (wrap64 ((R : Int) + c1) - wrap64 ((N : Int) + c2)) = (R : Int) - N + c1 - c2 := by
  unfold wrap64
  omega

set_option maxRecDepth 10000 in
set_option maxHeartbeats 4000000 in
theorem refTold_no {N M : Nat} {x y : BitVec 64} (hM : (M : Int) ≤ 18446744073709551615) (hq : mayV M (U y) = false) (w : World) :
    Calls Tryd.prog 31 #[.agg #[.int .u64 N, .int .u64 (U x)], .agg #[.int .u64 M, .int .u64 (U y)]] w fun e w' => e = .returned (.tuple #[.agg #[.int .u64 N, .int .u64 (U x)], .int .i64 0, .int .i64 190]) ∧ Kp no w w' := by
  have hr := Lib.hid (fun V => refMay_c M y hM V)
  rw [hq] at hr
  have h1 := (((SL.start w).alloc [.int .u64 N, .int .u64 (U x)] 50).alloc [.int .u64 M, .int .u64 (U y)] 50).alloc [.int .u64 0, .int .u64 0] 50
  have hs1 : (w.alloc (.cells [Value.int .u64 N, .int .u64 (U x)].toArray 50)).heap.size = w.heap.size + 1 := by simp
  have hs2 : ((w.alloc (.cells [Value.int .u64 N, .int .u64 (U x)].toArray 50)).alloc (.cells [Value.int .u64 M, .int .u64 (U y)].toArray 50)).heap.size = w.heap.size + 1 + 1 := by simp
  rw [hs1, hs2] at h1
  have hH := Lib.hid h1
  clear h1 hs1 hs2 hM hq
  go_enter Tryd.func31, Tryd.ntmps31
  go_wp2_with fail
  generalize ((w.alloc (.cells #[.int .u64 N, .int .u64 (U x)] 50)).alloc (.cells #[.int .u64 M, .int .u64 (U y)] 50)).alloc (.cells #[.int .u64 0, .int .u64 0] 50) = w3 at *
  generalize w.heap.size + 1 + 1 = b4 at *
  generalize w.heap.size + 1 = b3 at *
  generalize w.heap.size = b2 at *
  have c0 := hH.out.cell (o := 0) (.there (.here _ _)) rfl
  have c1 := hH.out.cell (o := 1) (.there (.here _ _)) rfl
  go_wp2_with fail
  refine (hr.out _).mono ?_
  rintro e w4 ⟨rfl, k3⟩
  have H3 := Lib.hid (hH.out.quiet k3)
  clear k3 hH hr c0 c1
  have c0 := H3.out.cell (o := 0) (.there (.there (.here _ _))) rfl
  have c1 := H3.out.cell (o := 1) (.there (.there (.here _ _))) rfl
  have z0 := H3.out.cell (o := 0) (.here _ _) rfl
  have z1 := H3.out.cell (o := 1) (.here _ _) rfl
  have fz := fun o => H3.out.free (.here _ _) o
  go_wp2_with fail
  have h4 := (H3.out.setCell 0 (.int .u64 N)).setCell 1 (.int .u64 (U x))
  generalize (w4.setCell ⟨b4, 0, none⟩ (.int .u64 N)).setCell ⟨b4, 1, none⟩ (.int .u64 (U x)) = w5 at *
  have k0 := h4.cell (o := 0) (.here _ _) rfl
  have k1 := h4.cell (o := 1) (.here _ _) rfl
  refine bodyPost_ret (v := .tuple #[.agg #[.int .u64 N, .int .u64 (U x)], .int .i64 0, .int .i64 190]) ?_ rfl ?_
  · simp [results, Tryd.results31, go_sem, k0, k1]
  · exact ⟨rfl, h4.kp (.there (.there (.there (.here _ _))))⟩

set_option maxRecDepth 10000 in
set_option maxHeartbeats 4000000 in
theorem refTold_yes {N M : Nat} {x y : BitVec 64} (hg : Good 4611686018427387904 N x) (hg2 : Good 4611686018427387904 M y) (w : World) :
    Calls Tryd.prog 31 #[.agg #[.int .u64 N, .int .u64 (U x)], .agg #[.int .u64 M, .int .u64 (U y)]] w fun e w' =>
      e = .returned (.tuple #[.agg #[.int .u64 ((unionM N x M y).1 : Nat), .int .u64 (U (unionM N x M y).2)], .int .i64 (wrap64 (manyV (unionM N x M y).1 (unionM N x M y).2 - manyV N x)), .int .i64 0]) ∧ Kp no w w' := by
  have hNT := hg.next
  have hMT := hg2.next
  have hr := Lib.hid (fun V => refMay_c M y (by omega) V)
  rw [(may_good M y).2 hg2] at hr
  have hb0 := fun V => refBoth_c N x M y 0 false hNT hMT hg.top hg2.top (by omega) V
  obtain ⟨gu, u1, u2, um⟩ := union_spec hg hg2
  have hb : Hid (∀ V, Calls Tryd.prog 42 #[.agg #[.int .u64 N, .int .u64 (U x)], .agg #[.int .u64 M, .int .u64 (U y)], .int .u64 0, .bool false] V fun e w' => e = .returned (.agg #[.int .u64 ((unionM N x M y).1 : Nat), .int .u64 (U (unionM N x M y).2)]) ∧ Kp no V w') :=
    Lib.hid (fun V => (hb0 V).mono (by
      rintro e w' ⟨R, z, rfl, hz, hk, hkp⟩
      obtain ⟨e1, e2⟩ := met_inj hz gu.top (fun k => by
        rw [hk k, um k]; unfold bothF
        simp)
      rw [e1, e2]
      exact ⟨rfl, hkp⟩))
  generalize unionM N x M y = z at *
  obtain ⟨R, z⟩ := z
  dsimp only at hb gu u1 u2 ⊢
  have hRT := gu.next
  have c1 : cntN z.toNat ≤ 64 := cnt_le 64 _
  have c2 : cntN x.toNat ≤ 64 := cnt_le 64 _
  have hm : wrap64 (manyV R z - manyV N x) = (R : Int) - N + cntN z.toNat - cntN x.toNat := by
    unfold manyV
    rw [show wrap64 (R : Int) = R by unfold wrap64; omega, show wrap64 (N : Int) = N by unfold wrap64; omega]
    exact many_diff u1 hRT c1 c2
  rw [hm]
  have hc1 := Lib.hid (fun V => refCount_c z V)
  have hc2 := Lib.hid (fun V => refCount_c x V)
  generalize cntN z.toNat = d1 at *
  generalize cntN x.toNat = d2 at *
  obtain ⟨D, hD⟩ : ∃ D : Nat, (R : Int) - N = D := ⟨R - N, by omega⟩
  have hD2 : D ≤ 4611686018427387904 := by omega
  have hD' := Lib.hid hD
  rw [hD]
  have h1 := (((SL.start w).alloc [.int .u64 N, .int .u64 (U x)] 50).alloc [.int .u64 M, .int .u64 (U y)] 50).alloc [.int .u64 0, .int .u64 0] 50
  have hs1 : (w.alloc (.cells [Value.int .u64 N, .int .u64 (U x)].toArray 50)).heap.size = w.heap.size + 1 := by simp
  have hs2 : ((w.alloc (.cells [Value.int .u64 N, .int .u64 (U x)].toArray 50)).alloc (.cells [Value.int .u64 M, .int .u64 (U y)].toArray 50)).heap.size = w.heap.size + 1 + 1 := by simp
  rw [hs1, hs2] at h1
  have hH := Lib.hid h1
  clear h1 hs1 hs2 hg hg2 hNT hMT hb0 gu u1 u2 um hRT hm
  go_enter Tryd.func31, Tryd.ntmps31
  go_wp2_with fail
  generalize ((w.alloc (.cells #[.int .u64 N, .int .u64 (U x)] 50)).alloc (.cells #[.int .u64 M, .int .u64 (U y)] 50)).alloc (.cells #[.int .u64 0, .int .u64 0] 50) = w3 at *
  generalize w.heap.size + 1 + 1 = b4 at *
  generalize w.heap.size + 1 = b3 at *
  generalize w.heap.size = b2 at *
  have g0 := hH.out.cell (o := 0) (.there (.here _ _)) rfl
  have g1 := hH.out.cell (o := 1) (.there (.here _ _)) rfl
  go_wp2_with fail
  refine (hr.out _).mono ?_
  rintro e w4 ⟨rfl, k3⟩
  have H3 := Lib.hid (hH.out.quiet k3)
  clear k3 hH hr g0 g1
  have g0 := H3.out.cell (o := 0) (.there (.here _ _)) rfl
  have g1 := H3.out.cell (o := 1) (.there (.here _ _)) rfl
  have g2 := H3.out.cell (o := 0) (.there (.there (.here _ _))) rfl
  have g3 := H3.out.cell (o := 1) (.there (.there (.here _ _))) rfl
  go_wp2_with fail
  refine (hb.out _).mono ?_
  rintro e w5 ⟨rfl, k3⟩
  have h6 := (H3.out.quiet k3).alloc [.int .u64 R, .int .u64 (U z)] 50
  have H6 := Lib.hid h6
  clear k3 hb g0 g1 g2 g3 H3 h6
  go_wp2_with fail
  generalize w5.alloc (.cells #[.int .u64 R, .int .u64 (U z)] 50) = w6 at *
  generalize w5.heap.size = b8 at *
  have g0 := H6.out.cell (o := 0) (.here _ _) rfl
  have g1 := H6.out.cell (o := 1) (.here _ _) rfl
  have g2 := H6.out.cell (o := 0) (.there (.there (.there (.here _ _)))) rfl
  have g3 := H6.out.cell (o := 1) (.there (.there (.there (.here _ _)))) rfl
  generalize huz : U z = uz at *
  have huz' := Lib.hid huz
  clear huz
  generalize U x = ux at *
  go_quiet ((go_at_call 43; first | (with_reducible exact quiet_eq (hc1.out _)) | (with_reducible exact quiet_eq (hc2.out _))))
  have H7 := H6.out.drewN nq
  generalize w6.drewN nq = w7 at *
  have z0 := H7.cell (o := 0) (.there (.here _ _)) rfl
  have z1 := H7.cell (o := 1) (.there (.here _ _)) rfl
  have fz := fun o => H7.free (.there (.here _ _)) o
  have y0 := H7.cell (o := 0) (.here _ _) rfl
  have y1 := H7.cell (o := 1) (.here _ _) rfl
  have h8 := ((H7.re (L' := [.blk b4 [.int .u64 0, .int .u64 0] 50, .old w no]) (.step (.there (.here _ _)) (.drop (.drop (.drop (.same _)))))).setCell 0 (.int .u64 R)).setCell 1 (.int .u64 uz)
  have hH8 := Lib.hid h8
  clear h8 H7 H6 g0 g1 g2 g3 hc1 hc2
  go_wp2_with fail
  generalize (w7.setCell ⟨b4, 0, none⟩ (.int .u64 R)).setCell ⟨b4, 1, none⟩ (.int .u64 uz) = w8 at *
  have k0 := hH8.out.cell (o := 0) (.here _ _) rfl
  have k1 := hH8.out.cell (o := 1) (.here _ _) rfl
  refine bodyPost_ret (v := .tuple #[.agg #[.int .u64 R, .int .u64 uz], .int .i64 ((D : Int) + d1 - d2), .int .i64 0]) ?_ rfl ?_
  · simp [results, Tryd.results31, go_sem, k0, k1]
  · exact ⟨by first | rfl | rw [huz'.out], hH8.out.kp (.there (.here _ _))⟩

/-- Behind i nothing is met. -/
structure LastR (N : Nat) (x : BitVec 64) (i : Nat) : Prop where
  none : ∀ j, i < j → metM N x (N + j) = false
theorem LastR.start {N : Nat} {x : BitVec 64} (hx : x.getLsbD 63 = false) : LastR N x 64 := ⟨fun j hj => met_far hx (by omega)⟩
theorem LastR.step {N i : Nat} {x : BitVec 64} (h : LastR N x (i + 1)) (hm : metM N x (N + (i + 1)) = false) : LastR N x i := ⟨fun j hj => by
  rcases Nat.lt_or_ge (i + 1) j with h1 | h1
  · exact h.none j h1
  · obtain rfl : j = i + 1 := by omega
    exact hm⟩
theorem LastR.found {N i : Nat} {x : BitVec 64} (h : LastR N x i) (hi : 0 < i) (hm : metM N x (N + i) = true) : topM N x = N + i + 1 := by
  obtain ⟨-, a1, a2, a3, a4, a5⟩ := holes_spec N x
  rcases Nat.lt_trichotomy (topM N x) (N + i + 1) with h1 | h1 | h1
  · rw [a3 (N + i) (by omega)] at hm; cases hm
  · exact h1
  · rcases a4 with a4 | ⟨a4, a6⟩
    · omega
    · have := h.none (topM N x - 1 - N) (by omega)
      rw [show N + (topM N x - 1 - N) = topM N x - 1 by omega, a6] at this
      cases this
theorem LastR.nothing {N : Nat} {x : BitVec 64} (h : LastR N x 0) : topM N x = N := by
  obtain ⟨-, a1, a2, a3, a4, a5⟩ := holes_spec N x
  rcases a4 with a4 | ⟨a4, a6⟩
  · exact a4
  · have hne : topM N x - 1 ≠ N := by
      intro e
      rw [e] at a6
      unfold metM at a6
      rw [decide_eq_false (by omega : ¬ N < N)] at a6
      simp at a6
    have := h.none (topM N x - 1 - N) (by omega)
    rw [show N + (topM N x - 1 - N) = topM N x - 1 by omega, a6] at this
    cases this

set_option maxRecDepth 10000 in
set_option maxHeartbeats 4000000 in
theorem refLast_c {N : Nat} {x : BitVec 64} (hg : Good 4611686018427387904 N x) (w : World) :
    Calls Tryd.prog 36 #[.agg #[.int .u64 N, .int .u64 (U x)]] w fun e w' => e = .returned (.tuple #[.int .u64 (lastA N (U x)).1, .bool (lastA N (U x)).2]) ∧ Kp no w w' := by
  have hla := Lib.hid (lastA_top hg)
  have hNT := hg.next
  have hst := Lib.hid (LastR.start (N := N) hg.top)
  have hh := Lib.hid (fun n (hn : n ≤ 18446744073709551615) V => refHas_c N n x hn V)
  have hH := Lib.hid ((SL.start w).alloc [.int .u64 N, .int .u64 (U x)] 50)
  clear hg
  go_enter Tryd.func36, Tryd.ntmps36
  go_wp2_with fail
  generalize w.alloc (.cells #[.int .u64 N, .int .u64 (U x)] 50) = w2 at *
  generalize w.heap.size = b1 at *
  go_loopw [4] (fun t V => ∃ i : Nat, i ≤ 64 ∧ t = .int .u64 (i : Int) ∧ LastR N x i ∧ SL V [.blk b1 [.int .u64 N, .int .u64 (U x)] 50, .old w no]) (fun t _ => (intOf t).toNat)
  case atStart => exact ⟨64, by omega, rfl, hst.out, hH.out⟩
  case round =>
    clear hH hst
    obtain ⟨i, hi, rfl, hr, H⟩ := hrel
    have c0 := H.cell (o := 0) (.here _ _) rfl
    have c1 := H.cell (o := 1) (.here _ _) rfl
    cases i with
    | zero =>
      have htp := hr.nothing
      have hH := Lib.hid H
      have e0 : Hid (lastA N (U x) = if N = 0 then (0, false) else (((N - 1 : Nat) : Int), true)) := Lib.hid (by rw [hla.out, htp])
      clear H hr htp hla
      by_cases h0 : N = 0
      · rw [if_pos h0] at e0
        have h1 : N ≤ 0 := by omega
        clear h0
        go_wp2_with fail
        go_ret2
        exact ⟨by rw [e0.out]; rfl, hH.out.kp (.there (.here _ _))⟩
      · have h1 : 0 < N := by omega
        obtain ⟨M, hM⟩ : ∃ M, N - 1 = M := ⟨_, rfl⟩
        have e1 : (N : Int) - 1 = (M : Int) := by omega
        rw [hM, if_neg h0] at e0
        clear hM h0
        go_wp2_with fail
        go_ret2
        exact ⟨by rw [e0.out]; rfl, hH.out.kp (.there (.here _ _))⟩
    | succ i =>
      obtain ⟨y, hy⟩ : ∃ y, N + (i + 1) = y := ⟨_, rfl⟩
      have ey : (N : Int) + ((i : Int) + 1) = (y : Int) := by omega
      have hy2 : y ≤ 4611686018427389000 := by omega
      have hc := Lib.hid (fun V => hh.out y (by omega) V)
      have hfound := Lib.hid (fun h => hr.found (by omega) h)
      have hstep := Lib.hid (fun h => hr.step h)
      rw [hy] at hfound hstep
      have hH := Lib.hid H
      clear H hr hy
      cases hm : metM N x y with
      | true =>
        have ht := hfound.out hm
        have e0 : Hid (lastA N (U x) = ((y : Int), true)) := Lib.hid (by rw [hla.out, ht, if_neg (by omega)]; rfl)
        rw [hm] at hc
        clear hfound hstep hla ht hm
        go_wp2_with fail
        refine (hc.out _).mono ?_
        rintro e w4 ⟨rfl, k4⟩
        have H4 := Lib.hid (hH.out.quiet k4)
        clear k4 hH hc c0 c1
        have c0 := H4.out.cell (o := 0) (.here _ _) rfl
        go_wp2_with fail
        go_ret2
        exact ⟨by rw [e0.out]; rfl, H4.out.kp (.there (.here _ _))⟩
      | false =>
        have hs := Lib.hid (hstep.out hm)
        rw [hm] at hc
        clear hfound hstep hla hm
        go_wp2_with fail
        refine (hc.out _).mono ?_
        rintro e w4 ⟨rfl, k4⟩
        have H4 := Lib.hid (hH.out.quiet k4)
        clear k4 hH hc c0 c1
        go_wp2_with fail
        go_roundw
        case rel => exact ⟨i, by omega, by go_num, hs.out, H4.out⟩
        case measure => (simp [intOf]; try omega)
end Go.Proofs.YtkoajbmomipjkaaDoor
