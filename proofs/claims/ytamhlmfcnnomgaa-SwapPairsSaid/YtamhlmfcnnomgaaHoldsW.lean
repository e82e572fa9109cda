/- The walk of the law SwapHolds. -/
import Derived.Test.YtamhlmfcnnomgaaAlive
import Derived.Test.YtamhlmfcnnomgaaEnds
import Derived.Test.YtamhlmfcnnomgaaLaw
import Derived.Test.YtamhlmfcnnomgaaWf
namespace Go.Proofs.Ytamhlmfcnnomgaa
open Go.RowKit
set_option linter.unusedVariables false

theorem okN {mode p s : Nat} (hm : mode = 1 ∨ mode = 2) (h1 : 1 ≤ p) (h2 : p ≤ 64) (h3 : s ≤ 4096) : okP mode p s := ⟨by omega, by omega, by omega, by omega, by omega⟩

theorem held_ok (mode p s i r : Nat) (w : World) (hm : mode = 1 ∨ mode = 2) (h1 : 1 ≤ p) (h2 : p ≤ 64) (h3 : s ≤ 4096) (hi : i < p) (hr : r ≤ roundsOf mode p) :
    Calls Try.prog 19 #[.int .i64 mode, .int .i64 p, .int .i64 s, .int .i64 i, .int .i64 r] w fun e w' => e = .returned (.tuple #[span (heldOf mode p s i r), .int .i64 0]) ∧ Kp no w w' := by
  have hok := okN hm h1 h2 h3
  have hE : heldE mode p s i r = 0 := may_ok hok (by rw [roundsI_nat mode p h1 h2]; omega)
  have hV : heldV mode p s i r = span (heldOf mode p s i r) := by
    unfold heldV
    rw [if_pos hE]
    simp only [Int.toNat_natCast]
  have h := held_any mode p s i r w (by omega) (by omega)
  rw [hE, hV] at h
  exact h

theorem sends_ok (mode p s i r : Nat) (w : World) (hm : mode = 1 ∨ mode = 2) (h1 : 1 ≤ p) (h2 : p ≤ 64) (h3 : s ≤ 4096) (hi : i < p) (hr : r < roundsOf mode p) :
    Calls Try.prog 21 #[.int .i64 mode, .int .i64 p, .int .i64 s, .int .i64 i, .int .i64 r] w fun e w' =>
      ∃ v, e = .returned (.tuple #[v, .int .i64 0]) ∧ OwnK w' w.heap.size 31 5 v (mvFrom mode p s r i).length (mvs (mvFrom mode p s r i)) ∧ Kp no w w' := by
  have hok := okN hm h1 h2 h3
  have hE : askE mode p s i r = 0 := may_ok hok (by rw [roundsI_nat mode p h1 h2]; omega)
  have hL : askL (frB i) mode p s i r = mvFrom mode p s r i := by
    unfold askL
    rw [if_pos hE]
    simp only [Int.toNat_natCast]
    exact sends_eq mode p s r i hi
  have h := sends_any mode p s i r w (by omega) (by omega)
  rw [hE, hL] at h
  exact h

theorem hears_ok (mode p s i r : Nat) (w : World) (hm : mode = 1 ∨ mode = 2) (h1 : 1 ≤ p) (h2 : p ≤ 64) (h3 : s ≤ 4096) (hi : i < p) (hr : r < roundsOf mode p) :
    Calls Try.prog 23 #[.int .i64 mode, .int .i64 p, .int .i64 s, .int .i64 i, .int .i64 r] w fun e w' =>
      ∃ v, e = .returned (.tuple #[v, .int .i64 0]) ∧ OwnK w' w.heap.size 31 5 v ((movesOf mode p s r).filter (fun m => (m.to : Int) == (i : Int))).length (mvs ((movesOf mode p s r).filter (fun m => (m.to : Int) == (i : Int)))) ∧ Kp no w w' := by
  have hok := okN hm h1 h2 h3
  have hE : askE mode p s i r = 0 := may_ok hok (by rw [roundsI_nat mode p h1 h2]; omega)
  have hL : askL (toB i) mode p s i r = (movesOf mode p s r).filter (fun m => (m.to : Int) == (i : Int)) := by
    unfold askL
    rw [if_pos hE]
    simp only [Int.toNat_natCast]
    rfl
  have h := hears_any mode p s i r w (by omega) (by omega)
  rw [hE, hL] at h
  exact h

theorem Rounds_ok (mode p : Nat) (w : World) (hm : mode = 1 ∨ mode = 2) (h1 : 1 ≤ p) (h2 : p ≤ 64) : Calls Try.prog 13 #[.int .i64 mode, .int .i64 p] w fun e w' => e = .returned (.int .i64 (roundsOf mode p)) ∧ Kp no w w' := by
  have h := Rounds_c mode p w
  rw [if_pos (show okP (mode : Int) (p : Int) 0 from okN (s := 0) hm h1 h2 (by omega)), Int.toNat_natCast, Int.toNat_natCast] at h
  exact h

theorem neq_span (a b c e : Int) (w : World) : (binOp .neq 29 (.agg #[.int .i64 a, .int .i64 b]) (.agg #[.int .i64 c, .int .i64 e])).run Try.prog w = .ok (.bool (!(decide (a = c ∧ b = e)))) w := by
  rw [run_neq_struct, eq_span 9998 a b c e w]
  rfl
theorem eql_span2 (a b c e : Int) (w : World) : (binOp .eql 29 (.agg #[.int .i64 a, .int .i64 b]) (.agg #[.int .i64 c, .int .i64 e])).run Try.prog w = .ok (.bool (decide (a = c ∧ b = e))) w := by
  rw [run_eql_struct, eq_span 9998 a b c e w]
  rfl

set_option maxRecDepth 100000 in
set_option maxHeartbeats 4000000 in
theorem swapHolds_c (mode p s place round : Int) (w : World) (m0 : 0 ≤ mode) (m1 : mode ≤ 255) (p0 : 0 ≤ p) (p1 : p ≤ 255) (s0 : 0 ≤ s) (s1 : s ≤ 65535) (l0 : 0 ≤ place) (l1 : place ≤ 255) (r0 : 0 ≤ round) (r1 : round ≤ 255) :
    Calls Try.prog 8 #[.int .u8 mode, .int .u8 p, .int .u16 s, .int .u8 place, .int .u8 round] w fun e w' => e = .returned (.bool true) ∧ Kp no w w' := by
  obtain ⟨M, hM⟩ : ∃ M : Nat, 1 + mode % 2 = M := ⟨(1 + mode % 2).toNat, by omega⟩
  obtain ⟨N, hN⟩ : ∃ N : Nat, 1 + p % 64 = N := ⟨(1 + p % 64).toNat, by omega⟩
  obtain ⟨T, hT⟩ : ∃ T : Nat, s % 4097 = T := ⟨(s % 4097).toNat, by omega⟩
  have hm : M = 1 ∨ M = 2 := by omega
  have h1 : 1 ≤ N := by omega
  have h2 : N ≤ 64 := by omega
  have h3 : T ≤ 4096 := by omega
  have hS := fun w => sized_c mode p s w m0 p0 p1 s0 s1 m1
  rw [hM, hN, hT] at hS
  have hS' := Lib.hid hS
  have hR := Lib.hid (fun w => Rounds_ok M N w hm h1 h2)
  have hR7 := rounds_le M N h1 h2
  have hR1 : 1 ≤ roundsOf M N := by unfold roundsOf; split <;> omega
  obtain ⟨i, hi⟩ : ∃ i : Nat, place % (N : Int) = i := ⟨(place % (N : Int)).toNat, by have := Int.emod_nonneg place (show (N : Int) ≠ 0 by omega); omega⟩
  obtain ⟨r, hr⟩ : ∃ r : Nat, round % ((roundsOf M N : Nat) : Int) = r := ⟨(round % ((roundsOf M N : Nat) : Int)).toNat, by have := Int.emod_nonneg round (show ((roundsOf M N : Nat) : Int) ≠ 0 by omega); omega⟩
  have hiN : i < N := by have := Int.emod_lt_of_pos place (show (0 : Int) < N by omega); omega
  have hrR : r < roundsOf M N := by have := Int.emod_lt_of_pos round (show (0 : Int) < ((roundsOf M N : Nat) : Int) by omega); omega
  have HL := Lib.hid (holds M N T i r hm h1 hiN hrR)
  have HA := Lib.hid (fun w => held_ok M N T i r w hm h1 h2 h3 hiN (by omega))
  have HB0 := fun w => held_ok M N T i (r + 1) w hm h1 h2 h3 hiN (by omega)
  rw [show ((r + 1 : Nat) : Int) = (r : Int) + 1 by omega] at HB0
  have HB := Lib.hid HB0
  clear HB0
  have HO := Lib.hid (fun w => sends_ok M N T i r w hm h1 h2 h3 hiN hrR)
  have HI := Lib.hid (fun w => hears_ok M N T i r w hm h1 h2 h3 hiN hrR)
  have ha := held_le M N T i r hiN
  have hb := held_le M N T i (r + 1) hiN
  have hlo : (mvFrom M N T r i).length ≤ 64 := by have := mvFrom_len M N T r i h1; omega
  have hli : ((movesOf M N T r).filter (fun m => (m.to : Int) == (i : Int))).length ≤ 4096 := Nat.le_trans (List.length_filter_le _ _) (moves_len M N T r h1 h2)
  generalize mvFrom M N T r i = O at *
  generalize (movesOf M N T r).filter (fun m => (m.to : Int) == (i : Int)) = I at *
  generalize heldOf M N T i r = A at *
  generalize heldOf M N T i (r + 1) = B at *
  generalize roundsOf M N = R at *
  obtain ⟨a1, a2⟩ := A
  obtain ⟨b1, b2⟩ := B
  simp only at ha hb
  clear hS hm hM hN hT m0 m1 p0 p1 s0 s1
  have hmx : (N : Int) ≠ 0 := by omega
  have hNz : ((N : Int) == 0) = false := by simp; omega
  have hRz : ((R : Int) == 0) = false := by simp; omega
  have hNi : (1 : Int) ≤ N := by omega
  have hRi : (1 : Int) ≤ R := by omega
  have hNd : decide (N = 0) = false := by simp; omega
  have hRd : decide (R = 0) = false := by simp; omega
  have hn3 : ¬ (N : Int) = 0 := by omega
  have hn4 : ¬ (R : Int) = 0 := by omega
  go_enter Try.func8, Try.ntmps8
  go_wp2_with fail
  refine (alive_c _).mono ?_
  rintro e w1 ⟨rfl, k1⟩
  have k1' := Lib.hid k1
  clear k1
  go_wp2_with fail
  refine (hS'.out _).mono ?_
  rintro e w' ⟨rfl, rfl⟩
  go_wp2_with fail
  refine (hR.out _).mono ?_
  rintro e w2 ⟨rfl, k2⟩
  have k2' := Lib.hid (k1'.out.trans k2)
  clear k2
  go_wp2_with fail
  go_region
  go_wp2_with fail
  refine (HA.out _).mono ?_
  rintro e w3 ⟨rfl, k3⟩
  unfold span
  have k3' := Lib.hid (k2'.out.drew.trans k3)
  clear k3
  go_wp2_with fail
  refine (HB.out _).mono ?_
  rintro e w4 ⟨rfl, k4⟩
  unfold span
  have bA := Lib.hid (k4.at (blk_new w3 _) (fun h => h))
  have k4' := Lib.hid ((k3'.out.alloc _).trans k4)
  clear k4
  go_wp2_with fail
  refine (HO.out _).mono ?_
  rintro e w5 ⟨vo, rfl, oo, k5⟩
  have bA5 := Lib.hid (((Kp.refl no w4).alloc _ |>.trans k5).at bA.out (fun h => h))
  have bB5 := Lib.hid (k5.at (blk_new w4 _) (fun h => h))
  have k5' := Lib.hid ((k4'.out.alloc _).trans k5)
  obtain ⟨ao, co, rfl, q1, q2, q3, q4, q5⟩ := oo.slice
  have oo' := Lib.hid oo
  clear k5 oo q3 q4 q5
  go_wp2_with fail
  refine (HI.out _).mono ?_
  rintro e w6 ⟨vi, rfl, oi, k6⟩
  have bA6 := k6.at bA5.out (fun h => h)
  have bB6 := k6.at bB5.out (fun h => h)
  have oo6 := Lib.hid (oo'.out.no k6)
  have k6' := Lib.hid (k5'.out.trans k6)
  obtain ⟨ai, ci, rfl, q1, q2, q3, q4, q5⟩ := oi.slice
  have oi' := Lib.hid oi
  clear k6 oi q3 q4 q5 k1' k2' k3' k4' k5' bA bA5 bB5 oo'
  obtain ⟨x0, x1, -, -⟩ := two_blk bA6
  obtain ⟨y0, y1, -, -⟩ := two_blk bB6
  have bA6' := Lib.hid bA6
  have bB6' := Lib.hid bB6
  clear bA6 bB6
  obtain ⟨gA, hgA⟩ : ∃ gA, w3.heap.size = gA := ⟨_, rfl⟩
  obtain ⟨gB, hgB⟩ : ∃ gB, w4.heap.size = gB := ⟨_, rfl⟩
  rw [hgA] at bA6' x0 x1 ⊢
  rw [hgB] at bB6' y0 y1 ⊢
  clear hgA hgB
  have hsumO : sumS O ≤ 4096 := by have := HL.out.sum; simp only at this; omega
  have hsO := Lib.hid HL.out.sum
  have htake : ∀ k, sumS (O.take k) ≤ sumS O := fun k => by
    have e := sumS_app (O.take k) (O.drop k)
    rw [List.take_append_drop] at e
    omega
  have htake' := Lib.hid htake
  obtain ⟨nO, hnO⟩ : ∃ nO, O.length = nO := ⟨_, rfl⟩
  obtain ⟨nI, hnI⟩ : ∃ nI, I.length = nI := ⟨_, rfl⟩
  rw [hnO] at hlo ⊢
  rw [hnI] at hli ⊢
  have hnO' := Lib.hid hnO
  have hnI' := Lib.hid hnI
  clear htake hnO hnI q1 q2
  go_wp2_with fail
  go_loopw [26, 111] (fun sn c V => ∃ k : Nat, k ≤ nO ∧ c = .int .i64 k ∧ sn = .int .i64 (sumS (O.take k)) ∧ Kp no w6 V) (fun _ c _ => nO - (intOf c).toNat)
  case atStart => exact ⟨0, by omega, rfl, by simp [sumS], Kp.refl _ _⟩
  case round =>
    clear x0 x1 y0 y1
    obtain ⟨k, hk, rfl, rfl, hkV⟩ := hrel
    obtain ⟨x0, x1, -, -⟩ := two_blk (hkV.at bA6'.out (fun h => h))
    obtain ⟨y0, y1, -, -⟩ := two_blk (hkV.at bB6'.out (fun h => h))
    have xl := blk_lt (hkV.at bA6'.out (fun h => h))
    have yl := blk_lt (hkV.at bB6'.out (fun h => h))
    by_cases hkn : k < nO
    · have hkO : k < O.length := by rw [hnO'.out]; exact hkn
      obtain ⟨b, o, rfl, z0, z1, z2, z3, z4⟩ := ((oo6.out.no hkV).rdM).cells hkO
      have z5 : wr.cell? ⟨b, o + k * 5 + 3 + 1, none⟩ = some (.int .i64 (O[k]'hkO).b) := z4
      have ht1 := htake'.out k
      have hts : sumS (O.take (k + 1)) = sumS (O.take k) + ((O[k]'hkO).b - (O[k]'hkO).a) := by rw [List.take_succ_eq_append_getElem hkO, sumS_app]; simp [sumS]
      have hts' := Lib.hid hts
      obtain ⟨g1, g2, g3, g4⟩ := HL.out.keep (O[k]'hkO) (List.getElem_mem hkO)
      simp only at g1 g2 g3
      generalize O[k]'hkO = m at *
      generalize hS9 : sumS (O.take k) = S at *
      obtain ⟨_, mf, mt, ma, mb⟩ := m
      simp only at *
      have hkV' := Lib.hid hkV
      clear hts hS9 hkV
      by_cases hc : ma < b2
      · have hc2 : ¬ b1 < mb := fun h => g3 ⟨hc, h⟩
        clear g3
        go_wp2_with fail
        go_roundw
        case rel => exact ⟨k + 1, by omega, by go_num, by rw [hts'.out]; go_num, hkV'.out.alloc _⟩
        case measure => (simp [intOf]; try omega)
      · clear g3
        go_wp2_with fail
        go_roundw
        case rel => exact ⟨k + 1, by omega, by go_num, by rw [hts'.out]; go_num, hkV'.out.alloc _⟩
        case measure => (simp [intOf]; try omega)
    · obtain rfl : k = nO := by omega
      have hSall : sumS (O.take k) = sumS O := by rw [List.take_of_length_le (by rw [hnO'.out]; omega)]
      rw [hSall]
      have hkV' := Lib.hid hkV
      clear hSall hkV
      have hfin : ((sumS O : Int) + (b2 : Int) - (b1 : Int) == (a2 : Int) - (a1 : Int)) = true := by have := hsO.out; simp; omega
      have hneq := fun a b c e w => neq_span a b c e w
      have heql := fun a b c e w => eql_span2 a b c e w
      have hgn : ∀ (x y : Operand) (xs ys : Array Value) (w : World), (eqGuard .neq 29 x y (.agg xs) (.agg ys)).run Try.prog w = .ok () w := fun x y xs ys w => run_eqGuard_agg w .neq _ x y xs ys (by kernel_rfl)
      have hge : ∀ (x y : Operand) (xs ys : Array Value) (w : World), (eqGuard .eql 29 x y (.agg xs) (.agg ys)).run Try.prog w = .ok () w := fun x y xs ys w => run_eqGuard_agg w .eql _ x y xs ys (by kernel_rfl)
      generalize sumS O = S at *
      go_wp2_with fail
      go_loopw [155] (fun c V => ∃ k : Nat, k ≤ nI ∧ c = .int .i64 k ∧ Kp no w6 V) (fun c _ => nI - (intOf c).toNat)
      case atStart => exact ⟨0, by omega, rfl, hkV'.out⟩
      case round =>
        clear x0 x1 y0 y1 xl yl
        obtain ⟨j, hj, rfl, hkW⟩ := hrel
        obtain ⟨x0, x1, -, -⟩ := two_blk (hkW.at bA6'.out (fun h => h))
        obtain ⟨y0, y1, -, -⟩ := two_blk (hkW.at bB6'.out (fun h => h))
        have xl := blk_lt (hkW.at bA6'.out (fun h => h))
        have yl := blk_lt (hkW.at bB6'.out (fun h => h))
        by_cases hjn : j < nI
        · have hjI : j < I.length := by rw [hnI'.out]; exact hjn
          obtain ⟨b, o, rfl, z0, z1, z2, z3, z4⟩ := ((oi'.out.no hkW).rdM).cells hjI
          obtain ⟨g1, g2⟩ := HL.out.hear (I[j]'hjI) (List.getElem_mem hjI)
          simp only at g1 g2
          rw [g1] at z3
          rw [g2] at z4
          have z5 : wr.cell? ⟨b, o + j * 5 + 3 + 1, none⟩ = some (.int .i64 (b2 : Nat)) := z4
          have hkW' := Lib.hid hkW
          clear hkW g1 g2 z0 z1 z2
          go_wp2_with fail
          go_roundw
          case rel => exact ⟨j + 1, by omega, by go_num, hkW'.out.alloc _⟩
          case measure => (simp [intOf]; try omega)
        · obtain rfl : j = nI := by omega
          have hkW' := Lib.hid hkW
          clear hkW
          rcases HL.out.within with ⟨w1, w2⟩ | hw
          · simp only at w1 w2
            go_wp2_with fail
            go_ret
            exact ⟨rfl, k6'.out.trans hkW'.out⟩
          · simp only [Prod.mk.injEq] at hw
            obtain ⟨rfl, rfl⟩ := hw
            by_cases g1 : a1 ≤ 0
            · go_wp2_with fail
              go_ret
              exact ⟨ret_b (by have h9 := hsO.out; simp at h9 ⊢; omega), k6'.out.trans hkW'.out⟩
            · go_wp2_with fail
              go_ret
              exact ⟨ret_b (by have h9 := hsO.out; simp at h9 ⊢; omega), k6'.out.trans hkW'.out⟩

theorem swapHolds_w (mode p s place round : Int) (w : World) (hm : (Lit.int .u8 mode).wf = true) (hp : (Lit.int .u8 p).wf = true) (hs : (Lit.int .u16 s).wf = true) (hl : (Lit.int .u8 place).wf = true) (hr : (Lit.int .u8 round).wf = true) :
    Calls Try.prog 8 #[.int .u8 mode, .int .u8 p, .int .u16 s, .int .u8 place, .int .u8 round] w fun e w' => e = .returned (.bool true) ∧ Below w.heap.size w w' :=
  (swapHolds_c mode p s place round w (wf_b hm).1 (wf_b hm).2 (wf_b hp).1 (wf_b hp).2 (wf_u16 hs).1 (wf_u16 hs).2 (wf_b hl).1 (wf_b hl).2 (wf_b hr).1 (wf_b hr).2).mono fun _ _ h => ⟨h.1, h.2.self_below⟩
end Go.Proofs.Ytamhlmfcnnomgaa
