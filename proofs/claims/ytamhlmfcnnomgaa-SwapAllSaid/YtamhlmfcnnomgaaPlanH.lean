/- The reference's Plan, by halves. -/
import Derived.Test.YtamhlmfcnnomgaaPlanG
import Derived.Test.YtamhlmfcnnomgaaSame
import Derived.Deep.CutBlock
import Derived.Deep.CutRange
import Derived.Shelf.RegionOpen
import Derived.Lib.AppendZeros
import Derived.IntWalk
namespace Go.Proofs.Ytamhlmfcnnomgaa
open Go.RowKit
set_option linter.unusedVariables false

set_option maxRecDepth 100000 in
set_option maxHeartbeats 64000000 in
theorem plan_halves (p s : Nat) (h1 : 1 ≤ p) (h2 : p ≤ 64) (h3 : s ≤ 4096) (N : Nat) (hN0 : roundsOf 1 p = N) {L : List Pc} {w : World} (H : SL w L) :
    Calls Try.prog 17 #[.int .i64 1, .int .i64 p, .int .i64 s] w fun e w' => ∃ B C R S, e = .returned (.tuple #[.slice (some ⟨B, 0, none⟩) (N + 1) (N + 1), .slice (some ⟨C, 0, none⟩) N N]) ∧
      R.map (·.2) = wholeX (fun k => heldRow 1 p s k p) (N + 1) ∧ S.map (·.2) = wholeX (movesOf 1 p s) N ∧ SL w' (gH B R :: gM C S :: L) := by
  have hmx : Try.prog.follows .mixedOrders = true := by kernel_rfl
  have hrr := Lib.hid (fun w => rrounds_c 1 p w (by omega) h1 h2)
  have hN7 : N ≤ 7 := by rw [← hN0]; exact rounds_le 1 p h1 h2
  have hN1 : 1 ≤ N := by rw [← hN0]; unfold roundsOf; split <;> omega
  rw [hN0] at hrr
  have hN := Lib.hid hN0
  clear hN0
  obtain ⟨w1, hr0, H1⟩ := H.made elemHd1 .i64 .i64 (N + 1) (by omega) (by simp only [maxLen]; omega)
  rw [made_one _ _ rfl] at H1
  have hr1 : (Instr.makeSlice 39 (.int .i64 ((N : Int) + 1)) (.int .i64 ((N : Int) + 1))).run Try.prog w = .ok (.slice (some ⟨w.heap.size, 0, none⟩) (N + 1) (N + 1)) w1 := hr0
  have G1 := grid_made (e := 29) (k := 2) (f := spCells) H1
  obtain ⟨w2, hr0', H2⟩ := G1.made elemHd2 .i64 .i64 N (by omega) (by simp only [maxLen]; omega)
  rw [made_one _ _ rfl] at H2
  have hr2 : (Instr.makeSlice 40 (.int .i64 (N : Int)) (.int .i64 (N : Int))).run Try.prog w1 = .ok (.slice (some ⟨w1.heap.size, 0, none⟩) N N) w2 := hr0'
  have G2 := (grid_made (e := 31) (k := 5) (f := mvCells) H2).pull (.there (.here _ _))
  have hH := Lib.hid G2
  clear H H1 H2 G1 G2 hr0 hr0'
  have hR0 : Hid ((List.replicate (N + 1) ((Value.slice none 0 0, []) : Value × List (Nat × Nat))).map (·.2) = stage (fun j => heldRow 1 p s j p) (N + 1) 0 (heldRow 1 p s 0 0)) := Lib.hid (by rw [show heldRow 1 p s 0 0 = [] from rfl, stage_zero, List.map_replicate])
  have hS0 : Hid ((List.replicate N ((Value.slice none 0 0, []) : Value × List Mv)).map (·.2) = stage (movesOf 1 p s) N 0 (pre 1 p s 0 0)) := Lib.hid (by rw [show pre 1 p s 0 0 = [] from rfl, stage_zero, List.map_replicate])
  have hN1i : (1 : Int) ≤ N := by omega
  have hb0 : (0 : Int) < (N : Int) + 1 := by omega
  have hb1 : (1 : Int) < (N : Int) + 1 := by omega
  have hbz : (0 : Int) < (N : Int) := by omega
  have hbn : 0 < N := by omega
  go_enter Try.func17, Try.ntmps17
  go_wp2_with fail
  refine (hrr.out _).mono ?_
  rintro e w' ⟨rfl, rfl⟩
  go_wp2_with fail
  generalize w.heap.size = B at *
  generalize w1.heap.size = C at *
  generalize List.replicate (N + 1) ((Value.slice none 0 0, []) : Value × List (Nat × Nat)) = R0 at *
  generalize List.replicate N ((Value.slice none 0 0, []) : Value × List Mv) = S0 at *
  clear hr1 hr2 hrr
  go_loopw [11] (fun i wr => ∃ (i0 : Nat) (R : List (Value × List (Nat × Nat))), i0 ≤ p ∧ i = .int .i64 (i0 : Int) ∧ Hid (R.map (·.2) = stage (fun j => heldRow 1 p s j p) (N + 1) 0 (heldRow 1 p s 0 i0) ∧ SL wr (gH B R :: gM C S0 :: L))) (fun i _ => p - (intOf i).toNat)
  case atStart => exact ⟨0, _, by omega, rfl, Lib.hid ⟨hR0.out, hH.out⟩⟩
  case round =>
    clear hH hR0
    obtain ⟨i, R, hi, rfl, hh⟩ := hrel
    by_cases hip : i < p
    · obtain ⟨v0, hc, hap⟩ := g_app elemSp (fun _ => rfl) sp_cells1 (by decide) (ty := 33) (B := B) hh.out.1 (show 0 < N + 1 by omega) (by rw [heldRow_len]; omega)
      have q0 := (hc wr _ _ hh.out.2 (.here _ _)).1
      have HA : Hid (SL (wr.alloc (.cells #[.int .i64 0, .int .i64 s] 29)) (gH B R :: .blk wr.heap.size (spCells (0, s)) 29 :: gM C S0 :: L)) := Lib.hid ((hh.out.2.alloc (spCells (0, s)) 29).pull (.there (.here _ _)))
      have hap' := Lib.hid hap
      clear hc hap hh
      go_wp2_with (at_builtin; obtain ⟨a2, c2, w', hrun, hc1, hf1, -, -, R', hR', -, hst⟩ := hap'.out _ _ _ _ HA.out; refine arm_app rfl _ _ _ rfl v0 (.slice (some ⟨wr.heap.size, 0, none⟩) 1 1) rfl rfl hrun ?_; have hR2 := Lib.hid hR'; have hst2 := Lib.hid hst; clear hrun hR' hst q0 HA hap')
      go_roundw
      case rel => exact ⟨i + 1, R', by omega, by go_num, Lib.hid ⟨by rw [heldRow_succ, held_first]; exact hR2.out, hst2.out⟩⟩
      case measure => (simp [intOf]; try omega)
    · obtain rfl : p = i := by omega
      have hR1 : Hid (R.map (·.2) = stage (fun j => heldRow 1 p s j p) (N + 1) 1 (heldRow 1 p s 1 0)) := Lib.hid (by rw [hh.out.1]; exact stage_next (fun j => heldRow 1 p s j p) (N + 1) 0)
      have hH := Lib.hid hh.out.2
      clear hh hip hi
      go_wp2_with fail
      go_loopw [15] (fun q V => ∃ t q0 : Nat, q = .int .i64 (q0 : Int) ∧ q0 ≤ 64 ∧ 1 ≤ q0 ∧ q0 ≤ p ∧ Hid (q0 = 2 ^ t) ∧ V = wr) (fun q _ => 64 - (intOf q).toNat)
      case atStart => exact ⟨0, 1, rfl, by omega, by omega, by omega, Lib.hid rfl, rfl⟩
      case round =>
        obtain ⟨t, q0, rfl, hq, hq1, hqp, hh, rfl⟩ := hrel
        by_cases hle : 2 * q0 ≤ p
        · go_wp2_with fail
          go_round
          case rel => exact ⟨t + 1, 2 * q0, by go_num, by omega, by omega, by omega, Lib.hid (by rw [hh.out, Nat.pow_succ]; omega), trivial⟩
          case measure => (simp [intOf]; try omega)
        · have hqe := Lib.hid (show q0 = qOf p from by rw [hh.out]; exact q_end h1 (by rw [Nat.pow_succ, ← hh.out]; omega) (by rw [← hh.out]; exact hqp))
          clear hh
          have hdq : decide (2 * (q0 : Int) ≤ (p : Int)) = false := by simp; omega
          go_wp2_with fail
          clear hdq

          go_loopw [16] (fun i wr => ∃ (i0 : Nat) (R : List (Value × List (Nat × Nat))) (S : List (Value × List Mv)), i0 ≤ p ∧ i = .int .i64 (i0 : Int) ∧ Hid (R.map (·.2) = stage (fun j => heldRow 1 p s j p) (N + 1) 1 (heldRow 1 p s 1 i0) ∧ S.map (·.2) = stage (movesOf 1 p s) N 0 (pre 1 p s 0 i0) ∧ SL wr (gH B R :: gM C S :: L))) (fun i _ => p - (intOf i).toNat)
          case atStart => exact ⟨0, R, S0, by omega, rfl, Lib.hid ⟨hR1.out, hS0.out, hH.out⟩⟩
          case round =>
            clear hH hR1 hS0
            obtain ⟨i, R, S, hi, rfl, hh⟩ := hrel
            by_cases hip : i < p
            · by_cases hiq : i < q0
              · obtain ⟨v0, hc, hap⟩ := g_app elemSp (f := spCells) (fun _ => rfl) sp_cells1 (by decide) (ty := 33) (B := B) hh.out.1 (show 1 < N + 1 by omega) (by rw [heldRow_len]; omega)
                have hc' := Lib.hid hc
                have hap' := Lib.hid hap
                have hRl : R.length = N + 1 := rows_len hh.out.1
                have hR0l : 0 < R.length := by omega
                have hrow0 : (R[0]'hR0l).2 = heldRow 1 p s 0 p := by rw [rows_at hh.out.1 (show 0 < N + 1 by omega) hR0l, if_pos (by omega)]
                obtain ⟨hb, hcp, hv0, hhc⟩ := row_val (grid_row hh.out.2.2 (.here _ _) hR0l) (m := p) (by rw [hrow0, heldRow_len]) (by omega)
                have hf1r : Hid (∀ W v, W.cell? ⟨B, 0, none⟩ = some v → v = (R[0]'hR0l).1 → OwnK W 0 29 2 v (R[0]'hR0l).2.length ((R[0]'hR0l).2.flatMap spCells) → (fun W => W.cell? ⟨B, 0, none⟩ = some (.slice (some ⟨hb, 0, none⟩) p hcp) ∧ W.cell? ⟨hb, i * 2, none⟩ = some (.int .i64 0) ∧ W.cell? ⟨hb, i * 2 + 1, none⟩ = some (.int .i64 s)) W) := Lib.hid fun W v hc hv ho => by
                  obtain ⟨x1, x3, x4⟩ := row_facts1 hc ho (hv.trans hv0) (j := i) (by rw [hrow0, heldRow_len]; exact hip)
                  have e : (R[0]'hR0l).2[i]'(by rw [hrow0, heldRow_len]; exact hip) = (0, s) := by rw [List.getElem_of_eq hrow0, heldRow_at _ _ _ _ hip, held_first]
                  rw [e] at x3 x4
                  exact ⟨x1, x3, x4⟩
                have hf : Hid (∀ W M M' (R2 : List (Value × List (Nat × Nat))), R2 = R → SL W M → Pull M (gH B R2) M' → (fun W => W.cell? ⟨B, 0, none⟩ = some (.slice (some ⟨hb, 0, none⟩) p hcp) ∧ W.cell? ⟨hb, i * 2, none⟩ = some (.int .i64 0) ∧ W.cell? ⟨hb, i * 2 + 1, none⟩ = some (.int .i64 s)) W) := Lib.hid fun W M M' R2 e h hp => by
                  subst e
                  exact hf1r.out W _ (grid_cell h hp hR0l) rfl (grid_row h hp hR0l)
                have hH := Lib.hid hh.out.2.2
                have hS := Lib.hid hh.out.2.1
                have hx := Lib.hid (show heldOf 1 p s i 1 = (0, s) from by rw [held_one, if_neg (by rw [← hqe.out]; omega)])
                have hy := Lib.hid (show mvFrom 1 p s 0 i = [] from by rw [from_one, if_neg (by rw [← hqe.out]; omega)])
                have hR0l' := Lib.hid hR0l
                clear hc hap hh hrow0 hRl
                go_wp2_with fail
                refine wp_region_held_drew (S := (fun W => W.cell? ⟨B, 0, none⟩ = some (.slice (some ⟨hb, 0, none⟩) p hcp) ∧ W.cell? ⟨hb, i * 2, none⟩ = some (.int .i64 0) ∧ W.cell? ⟨hb, i * 2 + 1, none⟩ = some (.int .i64 s))) (by kernel_rfl) ?_ (fun hHeld => ?_)
                · have H := hH.out.drew
                  first | exact hS8 | exact hS7 | exact hf.out _ _ _ _ rfl H (.here _ _)
                have H := hH.out.drew
                generalize World.drew wr = w5 at *
                clear hH
                refine takeL (i := 0) rfl (by kernel_rfl) (by kernel_rfl) (by kernel_rfl) (fun _ _ _ _ h => h) hHeld ?_ (Or.inl ⟨by rfl, ?_⟩) ?_
                rotate_left
                · intro W hW
                  (try dsimp only at hW)
                  first | (go_simp; done) | (go_simp; with_reducible rfl)
                ((try simp only [Act.put]); (try simp only [List.setIfInBounds_toArray]); (try simp only [List.set_cons_succ]); (try simp only [List.set_cons_zero]))
                refine takeL (i := 1) rfl (by kernel_rfl) (by kernel_rfl) (by kernel_rfl) (fun _ _ _ _ h => h) hHeld ?_ (Or.inl ⟨by rfl, ?_⟩) ?_
                rotate_left
                · intro W hW
                  (try dsimp only at hW)
                  first | (go_simp; done) | (go_simp; with_reducible rfl)
                ((try simp only [Act.put]); (try simp only [List.setIfInBounds_toArray]); (try simp only [List.set_cons_succ]); (try simp only [List.set_cons_zero]))
                refine takeL (i := 2) rfl (by kernel_rfl) (by kernel_rfl) (by kernel_rfl) (fun _ _ _ _ h => h) hHeld ?_ (Or.inl ⟨by rfl, ?_⟩) ?_
                rotate_left
                · intro W hW
                  (try dsimp only at hW)
                  first | (go_simp; done) | (go_simp; with_reducible rfl)
                ((try simp only [Act.put]); (try simp only [List.setIfInBounds_toArray]); (try simp only [List.set_cons_succ]); (try simp only [List.set_cons_zero]))
                refine takeL (i := 4) rfl (by kernel_rfl) (by kernel_rfl) (by kernel_rfl) (fun _ _ _ _ h => h) hHeld ?_ (Or.inl ⟨by rfl, ?_⟩) ?_
                rotate_left
                · intro W hW
                  (try dsimp only at hW)
                  first | (go_simp; done) | (go_simp; with_reducible rfl)
                ((try simp only [Act.put]); (try simp only [List.setIfInBounds_toArray]); (try simp only [List.set_cons_succ]); (try simp only [List.set_cons_zero]))
                refine takeL (i := 5) rfl (by kernel_rfl) (by kernel_rfl) (by kernel_rfl) (fun _ _ _ _ h => h) hHeld ?_ (Or.inl ⟨by rfl, ?_⟩) ?_
                rotate_left
                · intro W hW
                  (try dsimp only at hW)
                  first | (go_simp; done) | (go_simp; with_reducible rfl)
                ((try simp only [Act.put]); (try simp only [List.setIfInBounds_toArray]); (try simp only [List.set_cons_succ]); (try simp only [List.set_cons_zero]))
                refine takeL (i := 6) rfl (by kernel_rfl) (by kernel_rfl) (by kernel_rfl) (fun _ _ _ _ h => h) hHeld ?_ (Or.inl ⟨by rfl, ?_⟩) ?_
                rotate_left
                · intro W hW
                  (try dsimp only at hW)
                  first | (go_simp; done) | (go_simp; with_reducible rfl)
                ((try simp only [Act.put]); (try simp only [List.setIfInBounds_toArray]); (try simp only [List.set_cons_succ]); (try simp only [List.set_cons_zero]))
                refine takeL (i := 7) rfl (by kernel_rfl) (by kernel_rfl) (by kernel_rfl) (fun _ _ _ _ h => h) hHeld ?_ (Or.inl ⟨by rfl, ?_⟩) ?_
                rotate_left
                · intro W hW
                  (try dsimp only at hW)
                  first | (go_simp; done) | (go_simp; with_reducible rfl)
                ((try simp only [Act.put]); (try simp only [List.setIfInBounds_toArray]); (try simp only [List.set_cons_succ]); (try simp only [List.set_cons_zero]))
                refine takeL (i := 8) rfl (by kernel_rfl) (by kernel_rfl) (by kernel_rfl) (fun _ _ _ _ h => h) hHeld ?_ (Or.inl ⟨by rfl, ?_⟩) ?_
                rotate_left
                · intro W hW
                  (try dsimp only at hW)
                  first | (go_simp; done) | (go_simp; with_reducible rfl)
                ((try simp only [Act.put]); (try simp only [List.setIfInBounds_toArray]); (try simp only [List.set_cons_succ]); (try simp only [List.set_cons_zero]))
                refine takeL (i := 9) rfl (by kernel_rfl) (by kernel_rfl) (by kernel_rfl) (fun _ _ _ _ h => h) hHeld ?_ (Or.inl ⟨by rfl, ?_⟩) ?_
                rotate_left
                · intro W hW
                  (try dsimp only at hW)
                  first | (go_simp; done) | (go_simp; with_reducible rfl)
                ((try simp only [Act.put]); (try simp only [List.setIfInBounds_toArray]); (try simp only [List.set_cons_succ]); (try simp only [List.set_cons_zero]))
                refine callL2 (i := 3) (j := 10) rfl rfl (by kernel_rfl) (fun K hK => ?_) (fun K hK => ?_)
                · rw [if_pos (by rfl)]
                  have q := (hc'.out _ _ _ H (.here _ _)).1
                  go_simp
                  clear q
                  refine hK.out _ _ ?_ (fun hHeld => ?_)
                  · first | exact hS8 | exact hS7 | exact hf.out _ _ _ _ rfl H (.here _ _)
                  clear hK K
                  ((try simp only [Act.put]); (try simp only [List.setIfInBounds_toArray]); (try simp only [List.set_cons_succ]); (try simp only [List.set_cons_zero]))
                  refine callL (i := 10) rfl (by kernel_rfl) (fun K hK => ?_)
                  rw [if_pos (by rfl)]
                  go_simp
                  have HB : SL (w5.alloc (.cells #[.int .i64 0, .int .i64 s] 29)) (gH B R :: .blk w5.heap.size (spCells (0, s)) 29 :: gM C S :: L) := (H.alloc (spCells (0, s)) 29).pull (.there (.here _ _))
                  clear H hHeld
                  have H := HB
                  clear HB
                  generalize w5.alloc (.cells #[.int .i64 0, .int .i64 s] 29) = w6 at *
                  generalize w5.heap.size = g6 at *
                  refine hK.out _ _ ?_ (fun hHeld => ?_)
                  · first | exact hS8 | exact hS7 | exact hf.out _ _ _ _ rfl H (.here _ _)
                  clear hK K
                  ((try simp only [Act.put]); (try simp only [List.setIfInBounds_toArray]); (try simp only [List.set_cons_succ]); (try simp only [List.set_cons_zero]))
                  refine callL (i := 11) rfl (by kernel_rfl) (fun K hK => ?_)
                  rw [if_pos (by rfl)]
                  obtain ⟨a2, c2, w7, hrun, hc1, hf1, hL7, hrw, R', hR', hsm, hst⟩ := hap'.out _ _ _ _ H
                  have hS7 := hf1r.out w7 _ (hrw 0 hR0l'.out).1 rfl ((hrw 0 hR0l'.out).2 (by omega))
                  refine Lib.wp_append_run _ _ _ _ _ rfl v0 (.slice (some ⟨g6, 0, none⟩) 1 1) rfl rfl _ _ hrun ?_
                  clear H hHeld hrun
                  have H := hL7
                  have hst2 := Lib.hid hst
                  clear hst hL7
                  refine hK.out _ _ ?_ (fun hHeld => ?_)
                  · first | exact hS8 | exact hS7 | exact hf.out _ _ _ _ rfl H (.here _ _)
                  clear hK K
                  ((try simp only [Act.put]); (try simp only [List.setIfInBounds_toArray]); (try simp only [List.set_cons_succ]); (try simp only [List.set_cons_zero]))
                  refine takeL (i := 12) rfl (by kernel_rfl) (by kernel_rfl) (by kernel_rfl) (fun _ _ _ _ h => h) hHeld ?_ (Or.inl ⟨by rfl, ?_⟩) ?_
                  rotate_left
                  · intro W hW
                    (try dsimp only at hW)
                    first | (go_simp; done) | (go_simp; with_reducible rfl)
                  ((try simp only [Act.put]); (try simp only [List.setIfInBounds_toArray]); (try simp only [List.set_cons_succ]); (try simp only [List.set_cons_zero]))
                  refine callL (i := 13) rfl (by kernel_rfl) (fun K hK => ?_)
                  rw [if_pos (by rfl)]
                  go_simp
                  have hR2l : 0 < R'.length := by rw [rows_len hR']; omega
                  have hsm0 := hsm 0 hR0l'.out hR2l (by omega)
                  have hS8 := hf1r.out _ _ (grid_cell hst2.out (.here _ _) hR2l) (by rw [hsm0]) (by have := grid_row hst2.out (.here _ _) hR2l; rw [hsm0] at this ⊢; exact this)
                  clear H hHeld
                  have H := hst2.out
                  clear hst2
                  refine hK.out _ _ ?_ (fun hHeld => ?_)
                  · first | exact hS8 | exact hS7 | exact hf.out _ _ _ _ rfl H (.here _ _)
                  clear hK K
                  ((try simp only [Act.put]); (try simp only [List.setIfInBounds_toArray]); (try simp only [List.set_cons_succ]); (try simp only [List.set_cons_zero]))
                  refine wpAnyH_done (by kernel_rfl) ?_ _
                  have hR2 := Lib.hid hR'
                  have hH := Lib.hid H
                  clear H hHeld hR' hc1 hf1 hap' hc' hrw hsm
                  go_wp2_with fail
                  go_roundw
                  case rel => exact ⟨i + 1, R', S, by omega, by go_num, Lib.hid ⟨by rw [heldRow_succ, hx.out]; exact hR2.out, by rw [pre_succ, hy.out, List.append_nil]; exact hS.out, hH.out⟩⟩
                  case measure => (simp [intOf]; try omega)
                · rw [if_pos (by rfl)]
                  go_simp
                  have HB : SL (w5.alloc (.cells #[.int .i64 0, .int .i64 s] 29)) (gH B R :: .blk w5.heap.size (spCells (0, s)) 29 :: gM C S :: L) := (H.alloc (spCells (0, s)) 29).pull (.there (.here _ _))
                  clear H hHeld
                  have H := HB
                  clear HB
                  generalize w5.alloc (.cells #[.int .i64 0, .int .i64 s] 29) = w6 at *
                  generalize w5.heap.size = g6 at *
                  refine hK.out _ _ ?_ (fun hHeld => ?_)
                  · first | exact hS8 | exact hS7 | exact hf.out _ _ _ _ rfl H (.here _ _)
                  clear hK K
                  ((try simp only [Act.put]); (try simp only [List.setIfInBounds_toArray]); (try simp only [List.set_cons_succ]); (try simp only [List.set_cons_zero]))
                  refine callL (i := 3) rfl (by kernel_rfl) (fun K hK => ?_)
                  rw [if_pos (by rfl)]
                  have q := (hc'.out _ _ _ H (.here _ _)).1
                  go_simp
                  clear q
                  refine hK.out _ _ ?_ (fun hHeld => ?_)
                  · first | exact hS8 | exact hS7 | exact hf.out _ _ _ _ rfl H (.here _ _)
                  clear hK K
                  ((try simp only [Act.put]); (try simp only [List.setIfInBounds_toArray]); (try simp only [List.set_cons_succ]); (try simp only [List.set_cons_zero]))
                  refine callL (i := 11) rfl (by kernel_rfl) (fun K hK => ?_)
                  rw [if_pos (by rfl)]
                  obtain ⟨a2, c2, w7, hrun, hc1, hf1, hL7, hrw, R', hR', hsm, hst⟩ := hap'.out _ _ _ _ H
                  have hS7 := hf1r.out w7 _ (hrw 0 hR0l'.out).1 rfl ((hrw 0 hR0l'.out).2 (by omega))
                  refine Lib.wp_append_run _ _ _ _ _ rfl v0 (.slice (some ⟨g6, 0, none⟩) 1 1) rfl rfl _ _ hrun ?_
                  clear H hHeld hrun
                  have H := hL7
                  have hst2 := Lib.hid hst
                  clear hst hL7
                  refine hK.out _ _ ?_ (fun hHeld => ?_)
                  · first | exact hS8 | exact hS7 | exact hf.out _ _ _ _ rfl H (.here _ _)
                  clear hK K
                  ((try simp only [Act.put]); (try simp only [List.setIfInBounds_toArray]); (try simp only [List.set_cons_succ]); (try simp only [List.set_cons_zero]))
                  refine takeL (i := 12) rfl (by kernel_rfl) (by kernel_rfl) (by kernel_rfl) (fun _ _ _ _ h => h) hHeld ?_ (Or.inl ⟨by rfl, ?_⟩) ?_
                  rotate_left
                  · intro W hW
                    (try dsimp only at hW)
                    first | (go_simp; done) | (go_simp; with_reducible rfl)
                  ((try simp only [Act.put]); (try simp only [List.setIfInBounds_toArray]); (try simp only [List.set_cons_succ]); (try simp only [List.set_cons_zero]))
                  refine callL (i := 13) rfl (by kernel_rfl) (fun K hK => ?_)
                  rw [if_pos (by rfl)]
                  go_simp
                  have hR2l : 0 < R'.length := by rw [rows_len hR']; omega
                  have hsm0 := hsm 0 hR0l'.out hR2l (by omega)
                  have hS8 := hf1r.out _ _ (grid_cell hst2.out (.here _ _) hR2l) (by rw [hsm0]) (by have := grid_row hst2.out (.here _ _) hR2l; rw [hsm0] at this ⊢; exact this)
                  clear H hHeld
                  have H := hst2.out
                  clear hst2
                  refine hK.out _ _ ?_ (fun hHeld => ?_)
                  · first | exact hS8 | exact hS7 | exact hf.out _ _ _ _ rfl H (.here _ _)
                  clear hK K
                  ((try simp only [Act.put]); (try simp only [List.setIfInBounds_toArray]); (try simp only [List.set_cons_succ]); (try simp only [List.set_cons_zero]))
                  refine wpAnyH_done (by kernel_rfl) ?_ _
                  have hR2 := Lib.hid hR'
                  have hH := Lib.hid H
                  clear H hHeld hR' hc1 hf1 hap' hc' hrw hsm
                  go_wp2_with fail
                  go_roundw
                  case rel => exact ⟨i + 1, R', S, by omega, by go_num, Lib.hid ⟨by rw [heldRow_succ, hx.out]; exact hR2.out, by rw [pre_succ, hy.out, List.append_nil]; exact hS.out, hH.out⟩⟩
                  case measure => (simp [intOf]; try omega)
              · obtain ⟨v1, hc, hap⟩ := g_app elemSp (f := spCells) (fun _ => rfl) sp_cells1 (by decide) (ty := 33) (B := B) hh.out.1 (show 1 < N + 1 by omega) (by rw [heldRow_len]; omega)
                have z1 := (hc wr _ _ hh.out.2.2 (.here _ _)).1
                have HA : Hid (SL (wr.alloc (.cells #[.int .i64 0, .int .i64 0] 29)) (gH B R :: .blk wr.heap.size (spCells (0, 0)) 29 :: gM C S :: L)) := Lib.hid ((hh.out.2.2.alloc (spCells (0, 0)) 29).pull (.there (.here _ _)))
                have hap1 := Lib.hid hap
                have hS := Lib.hid hh.out.2.1
                clear hc hap hh
                go_wp2_with (at_builtin; obtain ⟨a1, c1, w', hrun, hc1, hf1, -, -, R1, hR1', -, hst⟩ := hap1.out _ _ _ _ HA.out; refine arm_app rfl _ _ _ rfl v1 (.slice (some ⟨wr.heap.size, 0, none⟩) 1 1) rfl rfl hrun ?_; have hR1x := Lib.hid hR1'; have hst1 := Lib.hid hst; clear hrun hR1' hst z1 HA hap1)
                clear hc1 hf1
                generalize w'.setCell ⟨B, 1, none⟩ (.slice a1 ((heldRow 1 p s 1 i).length + 1) c1) = w8 at *
                clear w'
                have hRl : R1.length = N + 1 := rows_len hR1x.out
                have hR0l : 0 < R1.length := by omega
                have hrow0 : (R1[0]'hR0l).2 = heldRow 1 p s 0 p := by rw [rows_at hR1x.out (show 0 < N + 1 by omega) hR0l, if_pos (by omega)]
                obtain ⟨hb, hcp, hv0, hhc⟩ := row_val (grid_row hst1.out (.here _ _) hR0l) (m := p) (by rw [hrow0, heldRow_len]) (by omega)
                have hf1r : Hid (∀ W v, W.cell? ⟨B, 0, none⟩ = some v → v = (R1[0]'hR0l).1 → OwnK W 0 29 2 v (R1[0]'hR0l).2.length ((R1[0]'hR0l).2.flatMap spCells) → (fun W => W.cell? ⟨B, 0, none⟩ = some (.slice (some ⟨hb, 0, none⟩) p hcp) ∧ W.cell? ⟨hb, i * 2, none⟩ = some (.int .i64 0) ∧ W.cell? ⟨hb, i * 2 + 1, none⟩ = some (.int .i64 s)) W) := Lib.hid fun W v hc hv ho => by
                  obtain ⟨x1, x3, x4⟩ := row_facts1 hc ho (hv.trans hv0) (j := i) (by rw [hrow0, heldRow_len]; exact hip)
                  have e : (R1[0]'hR0l).2[i]'(by rw [hrow0, heldRow_len]; exact hip) = (0, s) := by rw [List.getElem_of_eq hrow0, heldRow_at _ _ _ _ hip, held_first]
                  rw [e] at x3 x4
                  exact ⟨x1, x3, x4⟩

                have hf : Hid (∀ W M M', SL W M → Pull M (gH B R1) M' → (fun W => W.cell? ⟨B, 0, none⟩ = some (.slice (some ⟨hb, 0, none⟩) p hcp) ∧ W.cell? ⟨hb, i * 2, none⟩ = some (.int .i64 0) ∧ W.cell? ⟨hb, i * 2 + 1, none⟩ = some (.int .i64 s)) W) := Lib.hid fun W M M' h hp => hf1r.out W _ (grid_cell h hp hR0l) rfl (grid_row h hp hR0l)
                have hpl : (pre 1 p s 0 i).length ≤ 4096 := by
                  have := pre_len 1 p s 0 i h1
                  have : i * p ≤ 64 * 64 := Nat.mul_le_mul (by omega) h2
                  omega
                obtain ⟨v0, hc, hap⟩ := g_app elemMv (f := mvCells) (fun _ => rfl) mv_cells1 (by decide) (ty := 24) (B := C) hS.out (show 0 < N by omega) (by omega)
                generalize (pre 1 p s 0 i).length = nl at hap
                have hc' := Lib.hid hc
                have hap' := Lib.hid hap
                have hH := Lib.hid (hst1.out.pull (.there (.here _ _)))
                have hx := Lib.hid (show heldOf 1 p s i 1 = (0, 0) from by rw [held_one, if_pos (by rw [← hqe.out]; omega)])
                obtain ⟨D, hD⟩ : ∃ D, i - q0 = D := ⟨_, rfl⟩
                have hy := Lib.hid (show mvFrom 1 p s 0 i = [⟨0, i, D, 0, s⟩] from by rw [from_one, if_pos (by rw [← hqe.out]; omega), ← hqe.out, hD])
                have hwD : IntKind.i64.wrap ((i : Int) - (q0 : Int)) = (D : Int) := by rw [show (i : Int) - (q0 : Int) = (D : Int) by omega]; exact wrapS (by omega)
                clear hc hap hrow0 hRl hst1 hD
                refine wp_region_held_drew (S := (fun W => W.cell? ⟨B, 0, none⟩ = some (.slice (some ⟨hb, 0, none⟩) p hcp) ∧ W.cell? ⟨hb, i * 2, none⟩ = some (.int .i64 0) ∧ W.cell? ⟨hb, i * 2 + 1, none⟩ = some (.int .i64 s))) (by kernel_rfl) ?_ (fun hHeld => ?_)
                · have H := hH.out.drew
                  first | exact hf.out _ _ _ H (.here _ _) | exact hf.out _ _ _ H (.there (.here _ _)) | exact hf.out _ _ _ H (.there (.there (.here _ _)))
                have H := hH.out.drew
                generalize World.drew w8 = w5 at *
                clear hH
                refine takeL (i := 0) rfl (by kernel_rfl) (by kernel_rfl) (by kernel_rfl) (fun _ _ _ _ h => h) hHeld ?_ (Or.inl ⟨by rfl, ?_⟩) ?_
                rotate_left
                · intro W hW
                  (try dsimp only at hW)
                  first | (go_simp; done) | (go_simp; with_reducible rfl)
                ((try simp only [Act.put]); (try simp only [List.setIfInBounds_toArray]); (try simp only [List.set_cons_succ]); (try simp only [List.set_cons_zero]))
                refine takeL (i := 1) rfl (by kernel_rfl) (by kernel_rfl) (by kernel_rfl) (fun _ _ _ _ h => h) hHeld ?_ (Or.inl ⟨by rfl, ?_⟩) ?_
                rotate_left
                · intro W hW
                  (try dsimp only at hW)
                  first | (go_simp; done) | (go_simp; with_reducible rfl)
                ((try simp only [Act.put]); (try simp only [List.setIfInBounds_toArray]); (try simp only [List.set_cons_succ]); (try simp only [List.set_cons_zero]))
                refine takeL (i := 2) rfl (by kernel_rfl) (by kernel_rfl) (by kernel_rfl) (fun _ _ _ _ h => h) hHeld ?_ (Or.inl ⟨by rfl, ?_⟩) ?_
                rotate_left
                · intro W hW
                  (try dsimp only at hW)
                  first | (go_simp; done) | (go_simp; with_reducible rfl)
                ((try simp only [Act.put]); (try simp only [List.setIfInBounds_toArray]); (try simp only [List.set_cons_succ]); (try simp only [List.set_cons_zero]))
                refine takeL (i := 4) rfl (by kernel_rfl) (by kernel_rfl) (by kernel_rfl) (fun _ _ _ _ h => h) hHeld ?_ (Or.inl ⟨by rfl, ?_⟩) ?_
                rotate_left
                · intro W hW
                  (try dsimp only at hW)
                  first | (go_simp; done) | (go_simp; with_reducible rfl)
                ((try simp only [Act.put]); (try simp only [List.setIfInBounds_toArray]); (try simp only [List.set_cons_succ]); (try simp only [List.set_cons_zero]))
                refine takeL (i := 5) rfl (by kernel_rfl) (by kernel_rfl) (by kernel_rfl) (fun _ _ _ _ h => h) hHeld ?_ (Or.inl ⟨by rfl, ?_⟩) ?_
                rotate_left
                · intro W hW
                  (try dsimp only at hW)
                  first | (go_simp; done) | (go_simp; with_reducible rfl)
                ((try simp only [Act.put]); (try simp only [List.setIfInBounds_toArray]); (try simp only [List.set_cons_succ]); (try simp only [List.set_cons_zero]))
                refine takeL (i := 6) rfl (by kernel_rfl) (by kernel_rfl) (by kernel_rfl) (fun _ _ _ _ h => h) hHeld ?_ (Or.inl ⟨by rfl, ?_⟩) ?_
                rotate_left
                · intro W hW
                  (try dsimp only at hW)
                  first | (go_simp; done) | (go_simp; with_reducible rfl)
                ((try simp only [Act.put]); (try simp only [List.setIfInBounds_toArray]); (try simp only [List.set_cons_succ]); (try simp only [List.set_cons_zero]))
                refine takeL (i := 7) rfl (by kernel_rfl) (by kernel_rfl) (by kernel_rfl) (fun _ _ _ _ h => h) hHeld ?_ (Or.inl ⟨by rfl, ?_⟩) ?_
                rotate_left
                · intro W hW
                  (try dsimp only at hW)
                  first | (go_simp; done) | (go_simp; with_reducible rfl)
                ((try simp only [Act.put]); (try simp only [List.setIfInBounds_toArray]); (try simp only [List.set_cons_succ]); (try simp only [List.set_cons_zero]))
                refine takeL (i := 8) rfl (by kernel_rfl) (by kernel_rfl) (by kernel_rfl) (fun _ _ _ _ h => h) hHeld ?_ (Or.inl ⟨by rfl, ?_⟩) ?_
                rotate_left
                · intro W hW
                  (try dsimp only at hW)
                  first | (go_simp; done) | (go_simp; with_reducible rfl)
                ((try simp only [Act.put]); (try simp only [List.setIfInBounds_toArray]); (try simp only [List.set_cons_succ]); (try simp only [List.set_cons_zero]))
                refine takeL (i := 9) rfl (by kernel_rfl) (by kernel_rfl) (by kernel_rfl) (fun _ _ _ _ h => h) hHeld ?_ (Or.inl ⟨by rfl, ?_⟩) ?_
                rotate_left
                · intro W hW
                  (try dsimp only at hW)
                  first | (go_simp; done) | (go_simp; with_reducible rfl)
                ((try simp only [Act.put]); (try simp only [List.setIfInBounds_toArray]); (try simp only [List.set_cons_succ]); (try simp only [List.set_cons_zero]))
                refine takeL (i := 10) rfl (by kernel_rfl) (by kernel_rfl) (by kernel_rfl) (fun _ _ _ _ h => h) hHeld ?_ (Or.inl ⟨by rfl, ?_⟩) ?_
                rotate_left
                · intro W hW
                  (try dsimp only at hW)
                  first | (go_simp; done) | (go_simp; with_reducible rfl)
                ((try simp only [Act.put]); (try simp only [List.setIfInBounds_toArray]); (try simp only [List.set_cons_succ]); (try simp only [List.set_cons_zero]))
                refine takeL (i := 11) rfl (by kernel_rfl) (by kernel_rfl) (by kernel_rfl) (fun _ _ _ _ h => h) hHeld ?_ (Or.inl ⟨by rfl, ?_⟩) ?_
                rotate_left
                · intro W hW
                  (try dsimp only at hW)
                  first | (go_simp; done) | (go_simp; with_reducible rfl)
                ((try simp only [Act.put]); (try simp only [List.setIfInBounds_toArray]); (try simp only [List.set_cons_succ]); (try simp only [List.set_cons_zero]))
                refine takeL (i := 12) rfl (by kernel_rfl) (by kernel_rfl) (by kernel_rfl) (fun _ _ _ _ h => h) hHeld ?_ (Or.inl ⟨by rfl, ?_⟩) ?_
                rotate_left
                · intro W hW
                  (try dsimp only at hW)
                  first | (go_simp; done) | (go_simp; with_reducible rfl)
                ((try simp only [Act.put]); (try simp only [List.setIfInBounds_toArray]); (try simp only [List.set_cons_succ]); (try simp only [List.set_cons_zero]))
                refine takeL (i := 13) rfl (by kernel_rfl) (by kernel_rfl) (by kernel_rfl) (fun _ _ _ _ h => h) hHeld ?_ (Or.inl ⟨by rfl, ?_⟩) ?_
                rotate_left
                · intro W hW
                  (try dsimp only at hW)
                  first | (go_simp; done) | (go_simp; with_reducible rfl)
                ((try simp only [Act.put]); (try simp only [List.setIfInBounds_toArray]); (try simp only [List.set_cons_succ]); (try simp only [List.set_cons_zero]))
                refine takeL (i := 14) rfl (by kernel_rfl) (by kernel_rfl) (by kernel_rfl) (fun _ _ _ _ h => h) hHeld ?_ (Or.inl ⟨by rfl, ?_⟩) ?_
                rotate_left
                · intro W hW
                  (try dsimp only at hW)
                  first | (go_simp; done) | (go_simp; with_reducible rfl)
                ((try simp only [Act.put]); (try simp only [List.setIfInBounds_toArray]); (try simp only [List.set_cons_succ]); (try simp only [List.set_cons_zero]))
                refine callL2 (i := 3) (j := 15) rfl rfl (by kernel_rfl) (fun K hK => ?_) (fun K hK => ?_)
                · rw [if_pos (by rfl)]
                  have q := (hc'.out _ _ _ H (.here _ _)).1
                  go_simp
                  clear q
                  refine hK.out _ _ ?_ (fun hHeld => ?_)
                  · first | exact hf.out _ _ _ H (.here _ _) | exact hf.out _ _ _ H (.there (.here _ _)) | exact hf.out _ _ _ H (.there (.there (.here _ _)))
                  clear hK K
                  ((try simp only [Act.put]); (try simp only [List.setIfInBounds_toArray]); (try simp only [List.set_cons_succ]); (try simp only [List.set_cons_zero]))
                  refine callL (i := 15) rfl (by kernel_rfl) (fun K hK => ?_)
                  rw [if_pos (by rfl)]
                  go_simp
                  have HB : SL (w5.alloc (.cells #[.int .i64 0, .int .i64 i, .int .i64 D, .int .i64 0, .int .i64 s] 31)) (gM C S :: .blk w5.heap.size (mvCells ⟨0, i, D, 0, s⟩) 31 :: gH B R1 :: L) := (H.alloc (mvCells ⟨0, i, D, 0, s⟩) 31).pull (.there (.here _ _))
                  clear H hHeld
                  have H := HB
                  clear HB
                  generalize w5.alloc (.cells #[.int .i64 0, .int .i64 i, .int .i64 D, .int .i64 0, .int .i64 s] 31) = w6 at *
                  generalize w5.heap.size = g6 at *
                  refine hK.out _ _ ?_ (fun hHeld => ?_)
                  · first | exact hf.out _ _ _ H (.here _ _) | exact hf.out _ _ _ H (.there (.here _ _)) | exact hf.out _ _ _ H (.there (.there (.here _ _)))
                  clear hK K
                  ((try simp only [Act.put]); (try simp only [List.setIfInBounds_toArray]); (try simp only [List.set_cons_succ]); (try simp only [List.set_cons_zero]))
                  refine callL (i := 16) rfl (by kernel_rfl) (fun K hK => ?_)
                  rw [if_pos (by rfl)]
                  obtain ⟨a2, c2, w7, hrun, hc1, hf1, hL7, hrw, R', hR', hsm, hst⟩ := hap'.out _ _ _ _ H
                  
                  refine Lib.wp_append_run _ _ _ _ _ rfl v0 (.slice (some ⟨g6, 0, none⟩) 1 1) rfl rfl _ _ hrun ?_
                  clear H hHeld hrun
                  have H := hL7
                  have hst2 := Lib.hid hst
                  clear hst hL7
                  refine hK.out _ _ ?_ (fun hHeld => ?_)
                  · first | exact hf.out _ _ _ H (.here _ _) | exact hf.out _ _ _ H (.there (.here _ _)) | exact hf.out _ _ _ H (.there (.there (.here _ _)))
                  clear hK K
                  ((try simp only [Act.put]); (try simp only [List.setIfInBounds_toArray]); (try simp only [List.set_cons_succ]); (try simp only [List.set_cons_zero]))
                  refine takeL (i := 17) rfl (by kernel_rfl) (by kernel_rfl) (by kernel_rfl) (fun _ _ _ _ h => h) hHeld ?_ (Or.inl ⟨by rfl, ?_⟩) ?_
                  rotate_left
                  · intro W hW
                    (try dsimp only at hW)
                    first | (go_simp; done) | (go_simp; with_reducible rfl)
                  ((try simp only [Act.put]); (try simp only [List.setIfInBounds_toArray]); (try simp only [List.set_cons_succ]); (try simp only [List.set_cons_zero]))
                  refine callL (i := 18) rfl (by kernel_rfl) (fun K hK => ?_)
                  rw [if_pos (by rfl)]
                  go_simp
                  
                  clear H hHeld
                  have H := hst2.out
                  clear hst2
                  refine hK.out _ _ ?_ (fun hHeld => ?_)
                  · first | exact hf.out _ _ _ H (.here _ _) | exact hf.out _ _ _ H (.there (.here _ _)) | exact hf.out _ _ _ H (.there (.there (.here _ _)))
                  clear hK K
                  ((try simp only [Act.put]); (try simp only [List.setIfInBounds_toArray]); (try simp only [List.set_cons_succ]); (try simp only [List.set_cons_zero]))
                  refine wpAnyH_done (by kernel_rfl) ?_ _
                  have hR2 := Lib.hid hR'
                  have hH := Lib.hid H
                  clear H hHeld hR' hc1 hf1 hap' hc' hrw hsm
                  go_wp2_with fail
                  go_roundw
                  case rel => exact ⟨i + 1, R1, R', by omega, by go_num, Lib.hid ⟨by rw [heldRow_succ, hx.out]; exact hR1x.out, by rw [pre_succ, hy.out]; exact hR2.out, hH.out.pull (.there (.here _ _))⟩⟩
                  case measure => (simp [intOf]; try omega)
                · rw [if_pos (by rfl)]
                  go_simp
                  have HB : SL (w5.alloc (.cells #[.int .i64 0, .int .i64 i, .int .i64 D, .int .i64 0, .int .i64 s] 31)) (gM C S :: .blk w5.heap.size (mvCells ⟨0, i, D, 0, s⟩) 31 :: gH B R1 :: L) := (H.alloc (mvCells ⟨0, i, D, 0, s⟩) 31).pull (.there (.here _ _))
                  clear H hHeld
                  have H := HB
                  clear HB
                  generalize w5.alloc (.cells #[.int .i64 0, .int .i64 i, .int .i64 D, .int .i64 0, .int .i64 s] 31) = w6 at *
                  generalize w5.heap.size = g6 at *
                  refine hK.out _ _ ?_ (fun hHeld => ?_)
                  · first | exact hf.out _ _ _ H (.here _ _) | exact hf.out _ _ _ H (.there (.here _ _)) | exact hf.out _ _ _ H (.there (.there (.here _ _)))
                  clear hK K
                  ((try simp only [Act.put]); (try simp only [List.setIfInBounds_toArray]); (try simp only [List.set_cons_succ]); (try simp only [List.set_cons_zero]))
                  refine callL (i := 3) rfl (by kernel_rfl) (fun K hK => ?_)
                  rw [if_pos (by rfl)]
                  have q := (hc'.out _ _ _ H (.here _ _)).1
                  go_simp
                  clear q
                  refine hK.out _ _ ?_ (fun hHeld => ?_)
                  · first | exact hf.out _ _ _ H (.here _ _) | exact hf.out _ _ _ H (.there (.here _ _)) | exact hf.out _ _ _ H (.there (.there (.here _ _)))
                  clear hK K
                  ((try simp only [Act.put]); (try simp only [List.setIfInBounds_toArray]); (try simp only [List.set_cons_succ]); (try simp only [List.set_cons_zero]))
                  refine callL (i := 16) rfl (by kernel_rfl) (fun K hK => ?_)
                  rw [if_pos (by rfl)]
                  obtain ⟨a2, c2, w7, hrun, hc1, hf1, hL7, hrw, R', hR', hsm, hst⟩ := hap'.out _ _ _ _ H
                  
                  refine Lib.wp_append_run _ _ _ _ _ rfl v0 (.slice (some ⟨g6, 0, none⟩) 1 1) rfl rfl _ _ hrun ?_
                  clear H hHeld hrun
                  have H := hL7
                  have hst2 := Lib.hid hst
                  clear hst hL7
                  refine hK.out _ _ ?_ (fun hHeld => ?_)
                  · first | exact hf.out _ _ _ H (.here _ _) | exact hf.out _ _ _ H (.there (.here _ _)) | exact hf.out _ _ _ H (.there (.there (.here _ _)))
                  clear hK K
                  ((try simp only [Act.put]); (try simp only [List.setIfInBounds_toArray]); (try simp only [List.set_cons_succ]); (try simp only [List.set_cons_zero]))
                  refine takeL (i := 17) rfl (by kernel_rfl) (by kernel_rfl) (by kernel_rfl) (fun _ _ _ _ h => h) hHeld ?_ (Or.inl ⟨by rfl, ?_⟩) ?_
                  rotate_left
                  · intro W hW
                    (try dsimp only at hW)
                    first | (go_simp; done) | (go_simp; with_reducible rfl)
                  ((try simp only [Act.put]); (try simp only [List.setIfInBounds_toArray]); (try simp only [List.set_cons_succ]); (try simp only [List.set_cons_zero]))
                  refine callL (i := 18) rfl (by kernel_rfl) (fun K hK => ?_)
                  rw [if_pos (by rfl)]
                  go_simp
                  
                  clear H hHeld
                  have H := hst2.out
                  clear hst2
                  refine hK.out _ _ ?_ (fun hHeld => ?_)
                  · first | exact hf.out _ _ _ H (.here _ _) | exact hf.out _ _ _ H (.there (.here _ _)) | exact hf.out _ _ _ H (.there (.there (.here _ _)))
                  clear hK K
                  ((try simp only [Act.put]); (try simp only [List.setIfInBounds_toArray]); (try simp only [List.set_cons_succ]); (try simp only [List.set_cons_zero]))
                  refine wpAnyH_done (by kernel_rfl) ?_ _
                  have hR2 := Lib.hid hR'
                  have hH := Lib.hid H
                  clear H hHeld hR' hc1 hf1 hap' hc' hrw hsm
                  go_wp2_with fail
                  go_roundw
                  case rel => exact ⟨i + 1, R1, R', by omega, by go_num, Lib.hid ⟨by rw [heldRow_succ, hx.out]; exact hR1x.out, by rw [pre_succ, hy.out]; exact hR2.out, hH.out.pull (.there (.here _ _))⟩⟩
                  case measure => (simp [intOf]; try omega)

            · obtain rfl : p = i := by omega
              have hR1 : Hid (R.map (·.2) = stage (fun j => heldRow 1 p s j p) (N + 1) 2 []) := Lib.hid (by rw [hh.out.1]; exact stage_next (fun j => heldRow 1 p s j p) (N + 1) 1)
              have hS1 : Hid (S.map (·.2) = stage (movesOf 1 p s) N 1 []) := Lib.hid (by rw [hh.out.2.1, show pre 1 p s 0 p = movesOf 1 p s 0 from rfl]; exact stage_next (movesOf 1 p s) N 0)
              have hH := Lib.hid hh.out.2.2
              clear hh hip hi
              go_wp2_with fail
              go_loopw [17, 18] (fun b k wr => ∃ (k0 b0 : Nat) (R : List (Value × List (Nat × Nat))) (S : List (Value × List Mv)), 1 ≤ k0 ∧ k0 ≤ N ∧ k = .int .i64 (k0 : Int) ∧ b = .int .i64 (b0 : Int) ∧ b0 ≤ 64 ∧ 1 ≤ b0 ∧ Hid (b0 = 2 ^ (k0 - 1)) ∧ Hid (R.map (·.2) = stage (fun j => heldRow 1 p s j p) (N + 1) (k0 + 1) [] ∧ S.map (·.2) = stage (movesOf 1 p s) N k0 [] ∧ SL wr (gH B R :: gM C S :: L))) (fun _ k _ => N - (intOf k).toNat)
              case atStart => exact ⟨1, 1, R, S, by omega, by omega, rfl, rfl, by omega, by omega, Lib.hid rfl, Lib.hid ⟨hR1.out, hS1.out, hH.out⟩⟩
              case round =>
                clear hH hR1 hS1
                obtain ⟨k, b0, R, S, hk1, hkN, rfl, rfl, hb64, hb01, hbe, hh⟩ := hrel
                by_cases hkl : k < N
                · have hR1 : Hid (R.map (·.2) = stage (fun j => heldRow 1 p s j p) (N + 1) (k + 1) (heldRow 1 p s (k + 1) 0)) := Lib.hid (by rw [show heldRow 1 p s (k + 1) 0 = [] from rfl]; exact hh.out.1)
                  have hS1 : Hid (S.map (·.2) = stage (movesOf 1 p s) N k (pre 1 p s k 0)) := Lib.hid (by rw [show pre 1 p s k 0 = [] from rfl]; exact hh.out.2.1)
                  have hH := Lib.hid hh.out.2.2
                  clear hh
                  have hbk : ((k : Int) + 1) < (N : Int) + 1 := by omega
                  have hk0 : (0 : Int) ≤ (k : Int) + 1 := by omega
                  obtain ⟨r, hr⟩ : ∃ r, k = r + 1 := ⟨k - 1, by omega⟩
                  have hr' := Lib.hid hr
                  clear hr
                  go_wp2_with fail
                  go_loopw [19] (fun i wr => ∃ (i0 : Nat) (R : List (Value × List (Nat × Nat))) (S : List (Value × List Mv)), i0 ≤ p ∧ i = .int .i64 (i0 : Int) ∧ Hid (R.map (·.2) = stage (fun j => heldRow 1 p s j p) (N + 1) (k + 1) (heldRow 1 p s (k + 1) i0) ∧ S.map (·.2) = stage (movesOf 1 p s) N k (pre 1 p s k i0) ∧ SL wr (gH B R :: gM C S :: L))) (fun i _ => p - (intOf i).toNat)
                  case atStart => exact ⟨0, R, S, by omega, rfl, Lib.hid ⟨hR1.out, hS1.out, hH.out⟩⟩
                  case round =>
                    clear hH hR1 hS1
                    obtain ⟨i, R, S, hi, rfl, hh⟩ := hrel
                    by_cases hip : i < p
                    · by_cases hiq : i < q0
                      · have hkx := Lib.hid (half_round (s := s) (r := r) (i := i) h1 h2 (by rw [hN.out, ← hr'.out]; exact hkl) (by rw [← hqe.out]; exact hiq))
                        rw [show r + 2 = k + 1 by rw [hr'.out], show r + 1 = k from hr'.out.symm] at hkx
                        have hle := held_le 1 p s i k hip
                        have hRl : R.length = N + 1 := rows_len hh.out.1
                        have hRkl : k < R.length := by omega
                        have hrowk : (R[k]'hRkl).2 = heldRow 1 p s k p := by rw [rows_at hh.out.1 (show k < N + 1 by omega) hRkl, if_pos (by omega)]
                        obtain ⟨hb, hcp, hv0, hhc⟩ := row_val (grid_row hh.out.2.2 (.here _ _) hRkl) (m := p) (by rw [hrowk, heldRow_len]) (by omega)
                        obtain ⟨x1, x3, x4⟩ := row_facts1 (grid_cell hh.out.2.2 (.here _ _) hRkl) (grid_row hh.out.2.2 (.here _ _) hRkl) hv0 (j := i) (by rw [hrowk, heldRow_len]; exact hip)
                        rw [List.getElem_of_eq hrowk, heldRow_at _ _ _ _ hip] at x3 x4
                        have hr2 : 2 ^ r = b0 := by rw [hbe.out, hr'.out, Nat.add_sub_cancel]
                        rw [hr2] at hkx
                        obtain ⟨xa, xb, hxab⟩ : ∃ xa xb, heldOf 1 p s i k = (xa, xb) := ⟨_, _, rfl⟩
                        rw [hxab] at x3 x4 hle hkx
                        dsimp only at x3 x4 hle hkx
                        obtain ⟨mid, hmid⟩ : ∃ mid, xa + (xb - xa) / 2 = mid := ⟨_, rfl⟩
                        rw [hmid] at hkx
                        have hmi : (xa : Int) + ((xb : Int) - (xa : Int)) / 2 = (mid : Int) := by omega
                        have hml : mid ≤ xb := by omega
                        clear hrowk hRl hxab hv0 hr2 hmid
                        have hN1w : IntKind.i64.wrap ((k : Int) + 1) = (k : Int) + 1 := wrapS (n := k + 1) (by omega)
                        have hlk := blk_lt (grid_says hh.out.2.2 (.here _ _)).head
                        have HA := ((hh.out.2.2.alloc [.int .i64 xa, .int .i64 xb] 29).alloc [.int .i64 xa, .int .i64 mid] 29).alloc [.int .i64 mid, .int .i64 xb] 29
                        rw [World.size_alloc, World.size_alloc] at HA
                        have hHA := Lib.hid (HA.re (.step (.there (.there (.there (.here _ _)))) (.step (.there (.there (.there (.here _ _)))) (.step (.here _ _) (.step (.here _ _) (.drop (.same _)))))))
                        dsimp only [List.toArray] at hHA
                        obtain ⟨v0, hc, hap⟩ := g_app elemSp (f := spCells) (fun _ => rfl) sp_cells1 (by decide) (ty := 33) (B := B) hh.out.1 (show k + 1 < N + 1 by omega) (by rw [heldRow_len]; omega)
                        generalize (heldRow 1 p s (k + 1) i).length = nl1 at hap
                        have hc' := Lib.hid hc
                        have hap' := Lib.hid hap
                        have hS := Lib.hid hh.out.2.1
                        clear hc hap hh HA
                        have hpl : (pre 1 p s k i).length ≤ 4096 := by
                          have := pre_len 1 p s k i h1
                          have : i * p ≤ 64 * 64 := Nat.mul_le_mul (by omega) h2
                          omega
                        by_cases hbit : i / b0 % 2 = 0
                        · have hbi : ((wrap64 ((i : Int) / (b0 : Int))).tmod 2 == 0) = true := by rw [div_bit hip h2, hbit]; rfl
                          go_upto_region 46 with (fail)
                          generalize ((wr.alloc (.cells #[.int .i64 xa, .int .i64 xb] 29)).alloc (.cells #[.int .i64 xa, .int .i64 mid] 29)).alloc (.cells #[.int .i64 mid, .int .i64 xb] 29) = w3 at *
                          generalize wr.heap.size + 1 + 1 = X23 at *
                          generalize wr.heap.size + 1 = X22 at *
                          have hH := hHA
                          clear hHA
                          obtain ⟨hk1x, hk2x⟩ := hkx.out.1 hbit
                          obtain ⟨D, hD⟩ : ∃ D, i + b0 = D := ⟨_, rfl⟩
                          rw [hD] at hk2x
                          have hwD : IntKind.i64.wrap ((i : Int) + (b0 : Int)) = (D : Int) := by rw [show (i : Int) + (b0 : Int) = (D : Int) by omega]; exact wrapS (by omega)
                          have hk1y := Lib.hid hk1x
                          have hk2y := Lib.hid hk2x
                          clear hk1x hk2x hkx hD x1 x3 x4
                          have hbx : Hid (∀ W M M', SL W M → Pull M (.blk X22 [.int .i64 xa, .int .i64 mid] 29) M' → (fun W => W.cell? ⟨X22, 0, none⟩ = some (Value.int .i64 xa) ∧ W.cell? ⟨X22, 1, none⟩ = some (.int .i64 mid)) W) := Lib.hid fun W M M' h hp => ⟨h.cell hp rfl, h.cell hp rfl⟩
                          obtain ⟨T, hT⟩ : ∃ T : List Pc, gM C S :: .blk X23 [.int .i64 mid, .int .i64 xb] 29 :: .blk X22 [.int .i64 xa, .int .i64 mid] 29 :: L = T := ⟨_, rfl⟩
                          obtain ⟨xx, hxx⟩ : ∃ xx : Nat × Nat, (xa, mid) = xx := ⟨_, rfl⟩
                          obtain ⟨n1, hn1⟩ : ∃ n1, N + 1 = n1 := ⟨_, rfl⟩
                          obtain ⟨kk, hkk⟩ : ∃ kk, k + 1 = kk := ⟨_, rfl⟩
                          have hT2 := Lib.hid (And.intro hT (And.intro hxx (And.intro hn1 hkk)))
                          clear hT hxx hn1 hkk
                          go_cut [210] from 161 to 265 (fun _ V => CutH p s n1 kk i B xx T V)
                          case first =>
                            refine wp_region_held_drew (S := (fun W => W.cell? ⟨X22, 0, none⟩ = some (Value.int .i64 xa) ∧ W.cell? ⟨X22, 1, none⟩ = some (.int .i64 mid))) (by kernel_rfl) ?_ (fun hHeld => ?_)
                            · have H := hH.out.drew
                              first | exact hbx.out _ _ _ H (.there (.there (.here _ _))) | exact hbx.out _ _ _ H (.there (.there (.there (.here _ _)))) | exact hbx.out _ _ _ H (.there (.here _ _)) | exact hbx.out _ _ _ H (.there (.there (.there (.there (.here _ _)))))
                            have H := hH.out.drew
                            generalize World.drew w3 = w5 at *
                            clear hH
                            refine takeL (i := 0) rfl (by kernel_rfl) (by kernel_rfl) (by kernel_rfl) (fun _ _ _ _ h => h) hHeld ?_ (Or.inl ⟨by rfl, ?_⟩) ?_
                            rotate_left
                            · intro W hW
                              (try dsimp only at hW)
                              first | (go_simp; done) | (go_simp; with_reducible rfl)
                            ((try simp only [Act.put]); (try simp only [List.setIfInBounds_toArray]); (try simp only [List.set_cons_succ]); (try simp only [List.set_cons_zero]))
                            refine takeL (i := 1) rfl (by kernel_rfl) (by kernel_rfl) (by kernel_rfl) (fun _ _ _ _ h => h) hHeld ?_ (Or.inl ⟨by rfl, ?_⟩) ?_
                            rotate_left
                            · intro W hW
                              (try dsimp only at hW)
                              first | (go_simp; done) | (go_simp; with_reducible rfl)
                            ((try simp only [Act.put]); (try simp only [List.setIfInBounds_toArray]); (try simp only [List.set_cons_succ]); (try simp only [List.set_cons_zero]))
                            refine takeL (i := 2) rfl (by kernel_rfl) (by kernel_rfl) (by kernel_rfl) (fun _ _ _ _ h => h) hHeld ?_ (Or.inl ⟨by rfl, ?_⟩) ?_
                            rotate_left
                            · intro W hW
                              (try dsimp only at hW)
                              first | (go_simp; done) | (go_simp; with_reducible rfl)
                            ((try simp only [Act.put]); (try simp only [List.setIfInBounds_toArray]); (try simp only [List.set_cons_succ]); (try simp only [List.set_cons_zero]))
                            refine takeL (i := 3) rfl (by kernel_rfl) (by kernel_rfl) (by kernel_rfl) (fun _ _ _ _ h => h) hHeld ?_ (Or.inl ⟨by rfl, ?_⟩) ?_
                            rotate_left
                            · intro W hW
                              (try dsimp only at hW)
                              first | (go_simp; done) | (go_simp; with_reducible rfl)
                            ((try simp only [Act.put]); (try simp only [List.setIfInBounds_toArray]); (try simp only [List.set_cons_succ]); (try simp only [List.set_cons_zero]))
                            refine takeL (i := 4) rfl (by kernel_rfl) (by kernel_rfl) (by kernel_rfl) (fun _ _ _ _ h => h) hHeld ?_ (Or.inl ⟨by rfl, ?_⟩) ?_
                            rotate_left
                            · intro W hW
                              (try dsimp only at hW)
                              first | (go_simp; done) | (go_simp; with_reducible rfl)
                            ((try simp only [Act.put]); (try simp only [List.setIfInBounds_toArray]); (try simp only [List.set_cons_succ]); (try simp only [List.set_cons_zero]))
                            refine takeL (i := 5) rfl (by kernel_rfl) (by kernel_rfl) (by kernel_rfl) (fun _ _ _ _ h => h) hHeld ?_ (Or.inl ⟨by rfl, ?_⟩) ?_
                            rotate_left
                            · intro W hW
                              (try dsimp only at hW)
                              first | (go_simp; done) | (go_simp; with_reducible rfl)
                            ((try simp only [Act.put]); (try simp only [List.setIfInBounds_toArray]); (try simp only [List.set_cons_succ]); (try simp only [List.set_cons_zero]))
                            refine takeL (i := 6) rfl (by kernel_rfl) (by kernel_rfl) (by kernel_rfl) (fun _ _ _ _ h => h) hHeld ?_ (Or.inl ⟨by rfl, ?_⟩) ?_
                            rotate_left
                            · intro W hW
                              (try dsimp only at hW)
                              first | (go_simp; done) | (go_simp; with_reducible rfl)
                            ((try simp only [Act.put]); (try simp only [List.setIfInBounds_toArray]); (try simp only [List.set_cons_succ]); (try simp only [List.set_cons_zero]))
                            refine takeL (i := 8) rfl (by kernel_rfl) (by kernel_rfl) (by kernel_rfl) (fun _ _ _ _ h => h) hHeld ?_ (Or.inl ⟨by rfl, ?_⟩) ?_
                            rotate_left
                            · intro W hW
                              (try dsimp only at hW)
                              first | (go_simp; done) | (go_simp; with_reducible rfl)
                            ((try simp only [Act.put]); (try simp only [List.setIfInBounds_toArray]); (try simp only [List.set_cons_succ]); (try simp only [List.set_cons_zero]))
                            refine callL2 (i := 7) (j := 9) rfl rfl (by kernel_rfl) (fun K hK => ?_) (fun K hK => ?_)
                            · rw [if_pos (by rfl)]
                              have q := (hc'.out _ _ _ H (.here _ _)).1
                              go_simp
                              clear q
                              refine hK.out _ _ ?_ (fun hHeld => ?_)
                              · first | exact hbx.out _ _ _ H (.there (.there (.here _ _))) | exact hbx.out _ _ _ H (.there (.there (.there (.here _ _)))) | exact hbx.out _ _ _ H (.there (.here _ _)) | exact hbx.out _ _ _ H (.there (.there (.there (.there (.here _ _)))))
                              clear hK K
                              ((try simp only [Act.put]); (try simp only [List.setIfInBounds_toArray]); (try simp only [List.set_cons_succ]); (try simp only [List.set_cons_zero]))
                              refine callL (i := 9) rfl (by kernel_rfl) (fun K hK => ?_)
                              rw [if_pos (by rfl)]
                              go_simp
                              have HB : SL (w5.alloc (.cells #[.int .i64 xa, .int .i64 mid] 29)) (gH B R :: .blk w5.heap.size (spCells (xa, mid)) 29 :: gM C S :: .blk X23 [.int .i64 mid, .int .i64 xb] 29 :: .blk X22 [.int .i64 xa, .int .i64 mid] 29 :: L) := (H.alloc (spCells (xa, mid)) 29).pull (.there (.here _ _))
                              clear H hHeld
                              have H := HB
                              clear HB
                              generalize w5.alloc (.cells #[.int .i64 xa, .int .i64 mid] 29) = w6 at *
                              generalize w5.heap.size = g6 at *
                              refine hK.out _ _ ?_ (fun hHeld => ?_)
                              · first | exact hbx.out _ _ _ H (.there (.there (.here _ _))) | exact hbx.out _ _ _ H (.there (.there (.there (.here _ _)))) | exact hbx.out _ _ _ H (.there (.here _ _)) | exact hbx.out _ _ _ H (.there (.there (.there (.there (.here _ _)))))
                              clear hK K
                              ((try simp only [Act.put]); (try simp only [List.setIfInBounds_toArray]); (try simp only [List.set_cons_succ]); (try simp only [List.set_cons_zero]))
                              refine callL (i := 10) rfl (by kernel_rfl) (fun K hK => ?_)
                              rw [if_pos (by rfl)]
                              obtain ⟨a2, c2, w7, hrun, hc1, hf1, hL7, hrw, R', hR', hsm, hst⟩ := hap'.out _ _ _ _ H
                              
                              refine Lib.wp_append_run _ _ _ _ _ rfl v0 (.slice (some ⟨g6, 0, none⟩) 1 1) rfl rfl _ _ hrun ?_
                              clear H hHeld hrun
                              have H := hL7
                              have hst2 := Lib.hid hst
                              clear hst hL7
                              refine hK.out _ _ ?_ (fun hHeld => ?_)
                              · first | exact hbx.out _ _ _ H (.there (.there (.here _ _))) | exact hbx.out _ _ _ H (.there (.there (.there (.here _ _)))) | exact hbx.out _ _ _ H (.there (.here _ _)) | exact hbx.out _ _ _ H (.there (.there (.there (.there (.here _ _)))))
                              clear hK K
                              ((try simp only [Act.put]); (try simp only [List.setIfInBounds_toArray]); (try simp only [List.set_cons_succ]); (try simp only [List.set_cons_zero]))
                              refine takeL (i := 11) rfl (by kernel_rfl) (by kernel_rfl) (by kernel_rfl) (fun _ _ _ _ h => h) hHeld ?_ (Or.inl ⟨by rfl, ?_⟩) ?_
                              rotate_left
                              · intro W hW
                                (try dsimp only at hW)
                                first | (go_simp; done) | (go_simp; with_reducible rfl)
                              ((try simp only [Act.put]); (try simp only [List.setIfInBounds_toArray]); (try simp only [List.set_cons_succ]); (try simp only [List.set_cons_zero]))
                              refine callL (i := 12) rfl (by kernel_rfl) (fun K hK => ?_)
                              rw [if_pos (by rfl)]
                              go_simp
                              
                              clear H hHeld
                              have H := hst2.out
                              clear hst2
                              refine hK.out _ _ ?_ (fun hHeld => ?_)
                              · first | exact hbx.out _ _ _ H (.there (.there (.here _ _))) | exact hbx.out _ _ _ H (.there (.there (.there (.here _ _)))) | exact hbx.out _ _ _ H (.there (.here _ _)) | exact hbx.out _ _ _ H (.there (.there (.there (.there (.here _ _)))))
                              clear hK K
                              ((try simp only [Act.put]); (try simp only [List.setIfInBounds_toArray]); (try simp only [List.set_cons_succ]); (try simp only [List.set_cons_zero]))
                              refine wpAnyH_done (by kernel_rfl) ?_ _
                              have hR2 := Lib.hid hR'
                              have hH := Lib.hid H
                              clear H hHeld hR' hc1 hf1 hap' hc' hrw hsm
                              go_wp2_with fail
                              go_meet
                              case rel => exact ⟨R', by rw [← hT2.out.2.1, ← hT2.out.2.2.1, ← hT2.out.2.2.2]; exact hR2.out, by rw [← hT2.out.1]; exact hH.out⟩
                            · rw [if_pos (by rfl)]
                              go_simp
                              have HB : SL (w5.alloc (.cells #[.int .i64 xa, .int .i64 mid] 29)) (gH B R :: .blk w5.heap.size (spCells (xa, mid)) 29 :: gM C S :: .blk X23 [.int .i64 mid, .int .i64 xb] 29 :: .blk X22 [.int .i64 xa, .int .i64 mid] 29 :: L) := (H.alloc (spCells (xa, mid)) 29).pull (.there (.here _ _))
                              clear H hHeld
                              have H := HB
                              clear HB
                              generalize w5.alloc (.cells #[.int .i64 xa, .int .i64 mid] 29) = w6 at *
                              generalize w5.heap.size = g6 at *
                              refine hK.out _ _ ?_ (fun hHeld => ?_)
                              · first | exact hbx.out _ _ _ H (.there (.there (.here _ _))) | exact hbx.out _ _ _ H (.there (.there (.there (.here _ _)))) | exact hbx.out _ _ _ H (.there (.here _ _)) | exact hbx.out _ _ _ H (.there (.there (.there (.there (.here _ _)))))
                              clear hK K
                              ((try simp only [Act.put]); (try simp only [List.setIfInBounds_toArray]); (try simp only [List.set_cons_succ]); (try simp only [List.set_cons_zero]))
                              refine callL (i := 7) rfl (by kernel_rfl) (fun K hK => ?_)
                              rw [if_pos (by rfl)]
                              have q := (hc'.out _ _ _ H (.here _ _)).1
                              go_simp
                              clear q
                              refine hK.out _ _ ?_ (fun hHeld => ?_)
                              · first | exact hbx.out _ _ _ H (.there (.there (.here _ _))) | exact hbx.out _ _ _ H (.there (.there (.there (.here _ _)))) | exact hbx.out _ _ _ H (.there (.here _ _)) | exact hbx.out _ _ _ H (.there (.there (.there (.there (.here _ _)))))
                              clear hK K
                              ((try simp only [Act.put]); (try simp only [List.setIfInBounds_toArray]); (try simp only [List.set_cons_succ]); (try simp only [List.set_cons_zero]))
                              refine callL (i := 10) rfl (by kernel_rfl) (fun K hK => ?_)
                              rw [if_pos (by rfl)]
                              obtain ⟨a2, c2, w7, hrun, hc1, hf1, hL7, hrw, R', hR', hsm, hst⟩ := hap'.out _ _ _ _ H
                              
                              refine Lib.wp_append_run _ _ _ _ _ rfl v0 (.slice (some ⟨g6, 0, none⟩) 1 1) rfl rfl _ _ hrun ?_
                              clear H hHeld hrun
                              have H := hL7
                              have hst2 := Lib.hid hst
                              clear hst hL7
                              refine hK.out _ _ ?_ (fun hHeld => ?_)
                              · first | exact hbx.out _ _ _ H (.there (.there (.here _ _))) | exact hbx.out _ _ _ H (.there (.there (.there (.here _ _)))) | exact hbx.out _ _ _ H (.there (.here _ _)) | exact hbx.out _ _ _ H (.there (.there (.there (.there (.here _ _)))))
                              clear hK K
                              ((try simp only [Act.put]); (try simp only [List.setIfInBounds_toArray]); (try simp only [List.set_cons_succ]); (try simp only [List.set_cons_zero]))
                              refine takeL (i := 11) rfl (by kernel_rfl) (by kernel_rfl) (by kernel_rfl) (fun _ _ _ _ h => h) hHeld ?_ (Or.inl ⟨by rfl, ?_⟩) ?_
                              rotate_left
                              · intro W hW
                                (try dsimp only at hW)
                                first | (go_simp; done) | (go_simp; with_reducible rfl)
                              ((try simp only [Act.put]); (try simp only [List.setIfInBounds_toArray]); (try simp only [List.set_cons_succ]); (try simp only [List.set_cons_zero]))
                              refine callL (i := 12) rfl (by kernel_rfl) (fun K hK => ?_)
                              rw [if_pos (by rfl)]
                              go_simp
                              
                              clear H hHeld
                              have H := hst2.out
                              clear hst2
                              refine hK.out _ _ ?_ (fun hHeld => ?_)
                              · first | exact hbx.out _ _ _ H (.there (.there (.here _ _))) | exact hbx.out _ _ _ H (.there (.there (.there (.here _ _)))) | exact hbx.out _ _ _ H (.there (.here _ _)) | exact hbx.out _ _ _ H (.there (.there (.there (.there (.here _ _)))))
                              clear hK K
                              ((try simp only [Act.put]); (try simp only [List.setIfInBounds_toArray]); (try simp only [List.set_cons_succ]); (try simp only [List.set_cons_zero]))
                              refine wpAnyH_done (by kernel_rfl) ?_ _
                              have hR2 := Lib.hid hR'
                              have hH := Lib.hid H
                              clear H hHeld hR' hc1 hf1 hap' hc' hrw hsm
                              go_wp2_with fail
                              go_meet
                              case rel => exact ⟨R', by rw [← hT2.out.2.1, ← hT2.out.2.2.1, ← hT2.out.2.2.2]; exact hR2.out, by rw [← hT2.out.1]; exact hH.out⟩
                          case rest =>
                            clear hH hbx hc' hap'
                            obtain ⟨R1, hR1c, HV⟩ := hcut
                            rw [← hT2.out.2.1, ← hT2.out.2.2.1, ← hT2.out.2.2.2] at hR1c
                            rw [← hT2.out.1] at HV
                            have hR1x := Lib.hid hR1c
                            obtain ⟨v0, hc, hap⟩ := g_app elemMv (f := mvCells) (fun _ => rfl) mv_cells1 (by decide) (ty := 24) (B := C) hS.out (show k < N by omega) (by omega)
                            generalize (pre 1 p s k i).length = nl at hap
                            have hc' := Lib.hid hc
                            have hap' := Lib.hid hap
                            have hH := Lib.hid (HV.pull (.there (.here _ _)))
                            clear hc hap HV hR1c
                            have hbx : Hid (∀ W M M', SL W M → Pull M (.blk X23 [.int .i64 mid, .int .i64 xb] 29) M' → (fun W => W.cell? ⟨X23, 0, none⟩ = some (Value.int .i64 mid) ∧ W.cell? ⟨X23, 1, none⟩ = some (.int .i64 xb)) W) := Lib.hid fun W M M' h hp => ⟨h.cell hp rfl, h.cell hp rfl⟩
                            go_wp2_with fail
                            refine wp_region_held_drew (S := (fun W => W.cell? ⟨X23, 0, none⟩ = some (Value.int .i64 mid) ∧ W.cell? ⟨X23, 1, none⟩ = some (.int .i64 xb))) (by kernel_rfl) ?_ (fun hHeld => ?_)
                            · have H := hH.out.drew
                              first | exact hbx.out _ _ _ H (.there (.there (.here _ _))) | exact hbx.out _ _ _ H (.there (.there (.there (.here _ _)))) | exact hbx.out _ _ _ H (.there (.here _ _)) | exact hbx.out _ _ _ H (.there (.there (.there (.there (.here _ _)))))
                            have H := hH.out.drew
                            generalize World.drew wc = w5 at *
                            clear hH
                            refine takeL (i := 0) rfl (by kernel_rfl) (by kernel_rfl) (by kernel_rfl) (fun _ _ _ _ h => h) hHeld ?_ (Or.inl ⟨by rfl, ?_⟩) ?_
                            rotate_left
                            · intro W hW
                              (try dsimp only at hW)
                              first | (go_simp; done) | (go_simp; with_reducible rfl)
                            ((try simp only [Act.put]); (try simp only [List.setIfInBounds_toArray]); (try simp only [List.set_cons_succ]); (try simp only [List.set_cons_zero]))
                            refine takeL (i := 1) rfl (by kernel_rfl) (by kernel_rfl) (by kernel_rfl) (fun _ _ _ _ h => h) hHeld ?_ (Or.inl ⟨by rfl, ?_⟩) ?_
                            rotate_left
                            · intro W hW
                              (try dsimp only at hW)
                              first | (go_simp; done) | (go_simp; with_reducible rfl)
                            ((try simp only [Act.put]); (try simp only [List.setIfInBounds_toArray]); (try simp only [List.set_cons_succ]); (try simp only [List.set_cons_zero]))
                            refine takeL (i := 2) rfl (by kernel_rfl) (by kernel_rfl) (by kernel_rfl) (fun _ _ _ _ h => h) hHeld ?_ (Or.inl ⟨by rfl, ?_⟩) ?_
                            rotate_left
                            · intro W hW
                              (try dsimp only at hW)
                              first | (go_simp; done) | (go_simp; with_reducible rfl)
                            ((try simp only [Act.put]); (try simp only [List.setIfInBounds_toArray]); (try simp only [List.set_cons_succ]); (try simp only [List.set_cons_zero]))
                            refine takeL (i := 3) rfl (by kernel_rfl) (by kernel_rfl) (by kernel_rfl) (fun _ _ _ _ h => h) hHeld ?_ (Or.inl ⟨by rfl, ?_⟩) ?_
                            rotate_left
                            · intro W hW
                              (try dsimp only at hW)
                              first | (go_simp; done) | (go_simp; with_reducible rfl)
                            ((try simp only [Act.put]); (try simp only [List.setIfInBounds_toArray]); (try simp only [List.set_cons_succ]); (try simp only [List.set_cons_zero]))
                            refine takeL (i := 4) rfl (by kernel_rfl) (by kernel_rfl) (by kernel_rfl) (fun _ _ _ _ h => h) hHeld ?_ (Or.inl ⟨by rfl, ?_⟩) ?_
                            rotate_left
                            · intro W hW
                              (try dsimp only at hW)
                              first | (go_simp; done) | (go_simp; with_reducible rfl)
                            ((try simp only [Act.put]); (try simp only [List.setIfInBounds_toArray]); (try simp only [List.set_cons_succ]); (try simp only [List.set_cons_zero]))
                            refine takeL (i := 6) rfl (by kernel_rfl) (by kernel_rfl) (by kernel_rfl) (fun _ _ _ _ h => h) hHeld ?_ (Or.inl ⟨by rfl, ?_⟩) ?_
                            rotate_left
                            · intro W hW
                              (try dsimp only at hW)
                              first | (go_simp; done) | (go_simp; with_reducible rfl)
                            ((try simp only [Act.put]); (try simp only [List.setIfInBounds_toArray]); (try simp only [List.set_cons_succ]); (try simp only [List.set_cons_zero]))
                            refine takeL (i := 7) rfl (by kernel_rfl) (by kernel_rfl) (by kernel_rfl) (fun _ _ _ _ h => h) hHeld ?_ (Or.inl ⟨by rfl, ?_⟩) ?_
                            rotate_left
                            · intro W hW
                              (try dsimp only at hW)
                              first | (go_simp; done) | (go_simp; with_reducible rfl)
                            ((try simp only [Act.put]); (try simp only [List.setIfInBounds_toArray]); (try simp only [List.set_cons_succ]); (try simp only [List.set_cons_zero]))
                            refine takeL (i := 8) rfl (by kernel_rfl) (by kernel_rfl) (by kernel_rfl) (fun _ _ _ _ h => h) hHeld ?_ (Or.inl ⟨by rfl, ?_⟩) ?_
                            rotate_left
                            · intro W hW
                              (try dsimp only at hW)
                              first | (go_simp; done) | (go_simp; with_reducible rfl)
                            ((try simp only [Act.put]); (try simp only [List.setIfInBounds_toArray]); (try simp only [List.set_cons_succ]); (try simp only [List.set_cons_zero]))
                            refine takeL (i := 9) rfl (by kernel_rfl) (by kernel_rfl) (by kernel_rfl) (fun _ _ _ _ h => h) hHeld ?_ (Or.inl ⟨by rfl, ?_⟩) ?_
                            rotate_left
                            · intro W hW
                              (try dsimp only at hW)
                              first | (go_simp; done) | (go_simp; with_reducible rfl)
                            ((try simp only [Act.put]); (try simp only [List.setIfInBounds_toArray]); (try simp only [List.set_cons_succ]); (try simp only [List.set_cons_zero]))
                            refine takeL (i := 10) rfl (by kernel_rfl) (by kernel_rfl) (by kernel_rfl) (fun _ _ _ _ h => h) hHeld ?_ (Or.inl ⟨by rfl, ?_⟩) ?_
                            rotate_left
                            · intro W hW
                              (try dsimp only at hW)
                              first | (go_simp; done) | (go_simp; with_reducible rfl)
                            ((try simp only [Act.put]); (try simp only [List.setIfInBounds_toArray]); (try simp only [List.set_cons_succ]); (try simp only [List.set_cons_zero]))
                            refine takeL (i := 11) rfl (by kernel_rfl) (by kernel_rfl) (by kernel_rfl) (fun _ _ _ _ h => h) hHeld ?_ (Or.inl ⟨by rfl, ?_⟩) ?_
                            rotate_left
                            · intro W hW
                              (try dsimp only at hW)
                              first | (go_simp; done) | (go_simp; with_reducible rfl)
                            ((try simp only [Act.put]); (try simp only [List.setIfInBounds_toArray]); (try simp only [List.set_cons_succ]); (try simp only [List.set_cons_zero]))
                            refine takeL (i := 12) rfl (by kernel_rfl) (by kernel_rfl) (by kernel_rfl) (fun _ _ _ _ h => h) hHeld ?_ (Or.inl ⟨by rfl, ?_⟩) ?_
                            rotate_left
                            · intro W hW
                              (try dsimp only at hW)
                              first | (go_simp; done) | (go_simp; with_reducible rfl)
                            ((try simp only [Act.put]); (try simp only [List.setIfInBounds_toArray]); (try simp only [List.set_cons_succ]); (try simp only [List.set_cons_zero]))
                            refine callL2 (i := 5) (j := 13) rfl rfl (by kernel_rfl) (fun K hK => ?_) (fun K hK => ?_)
                            · rw [if_pos (by rfl)]
                              have q := (hc'.out _ _ _ H (.here _ _)).1
                              go_simp
                              clear q
                              refine hK.out _ _ ?_ (fun hHeld => ?_)
                              · first | exact hbx.out _ _ _ H (.there (.there (.here _ _))) | exact hbx.out _ _ _ H (.there (.there (.there (.here _ _)))) | exact hbx.out _ _ _ H (.there (.here _ _)) | exact hbx.out _ _ _ H (.there (.there (.there (.there (.here _ _)))))
                              clear hK K
                              ((try simp only [Act.put]); (try simp only [List.setIfInBounds_toArray]); (try simp only [List.set_cons_succ]); (try simp only [List.set_cons_zero]))
                              refine callL (i := 13) rfl (by kernel_rfl) (fun K hK => ?_)
                              rw [if_pos (by rfl)]
                              go_simp
                              have HB : SL (w5.alloc (.cells #[.int .i64 k, .int .i64 i, .int .i64 D, .int .i64 mid, .int .i64 xb] 31)) (gM C S :: .blk w5.heap.size (mvCells ⟨k, i, D, mid, xb⟩) 31 :: gH B R1 :: .blk X23 [.int .i64 mid, .int .i64 xb] 29 :: .blk X22 [.int .i64 xa, .int .i64 mid] 29 :: L) := (H.alloc (mvCells ⟨k, i, D, mid, xb⟩) 31).pull (.there (.here _ _))
                              clear H hHeld
                              have H := HB
                              clear HB
                              generalize w5.alloc (.cells #[.int .i64 k, .int .i64 i, .int .i64 D, .int .i64 mid, .int .i64 xb] 31) = w6 at *
                              generalize w5.heap.size = g6 at *
                              refine hK.out _ _ ?_ (fun hHeld => ?_)
                              · first | exact hbx.out _ _ _ H (.there (.there (.here _ _))) | exact hbx.out _ _ _ H (.there (.there (.there (.here _ _)))) | exact hbx.out _ _ _ H (.there (.here _ _)) | exact hbx.out _ _ _ H (.there (.there (.there (.there (.here _ _)))))
                              clear hK K
                              ((try simp only [Act.put]); (try simp only [List.setIfInBounds_toArray]); (try simp only [List.set_cons_succ]); (try simp only [List.set_cons_zero]))
                              refine callL (i := 14) rfl (by kernel_rfl) (fun K hK => ?_)
                              rw [if_pos (by rfl)]
                              obtain ⟨a2, c2, w7, hrun, hc1, hf1, hL7, hrw, R', hR', hsm, hst⟩ := hap'.out _ _ _ _ H
                              
                              refine Lib.wp_append_run _ _ _ _ _ rfl v0 (.slice (some ⟨g6, 0, none⟩) 1 1) rfl rfl _ _ hrun ?_
                              clear H hHeld hrun
                              have H := hL7
                              have hst2 := Lib.hid hst
                              clear hst hL7
                              refine hK.out _ _ ?_ (fun hHeld => ?_)
                              · first | exact hbx.out _ _ _ H (.there (.there (.here _ _))) | exact hbx.out _ _ _ H (.there (.there (.there (.here _ _)))) | exact hbx.out _ _ _ H (.there (.here _ _)) | exact hbx.out _ _ _ H (.there (.there (.there (.there (.here _ _)))))
                              clear hK K
                              ((try simp only [Act.put]); (try simp only [List.setIfInBounds_toArray]); (try simp only [List.set_cons_succ]); (try simp only [List.set_cons_zero]))
                              refine takeL (i := 15) rfl (by kernel_rfl) (by kernel_rfl) (by kernel_rfl) (fun _ _ _ _ h => h) hHeld ?_ (Or.inl ⟨by rfl, ?_⟩) ?_
                              rotate_left
                              · intro W hW
                                (try dsimp only at hW)
                                first | (go_simp; done) | (go_simp; with_reducible rfl)
                              ((try simp only [Act.put]); (try simp only [List.setIfInBounds_toArray]); (try simp only [List.set_cons_succ]); (try simp only [List.set_cons_zero]))
                              refine callL (i := 16) rfl (by kernel_rfl) (fun K hK => ?_)
                              rw [if_pos (by rfl)]
                              go_simp
                              
                              clear H hHeld
                              have H := hst2.out
                              clear hst2
                              refine hK.out _ _ ?_ (fun hHeld => ?_)
                              · first | exact hbx.out _ _ _ H (.there (.there (.here _ _))) | exact hbx.out _ _ _ H (.there (.there (.there (.here _ _)))) | exact hbx.out _ _ _ H (.there (.here _ _)) | exact hbx.out _ _ _ H (.there (.there (.there (.there (.here _ _)))))
                              clear hK K
                              ((try simp only [Act.put]); (try simp only [List.setIfInBounds_toArray]); (try simp only [List.set_cons_succ]); (try simp only [List.set_cons_zero]))
                              refine wpAnyH_done (by kernel_rfl) ?_ _
                              have hR2 := Lib.hid hR'
                              have hH := Lib.hid H
                              clear H hHeld hR' hc1 hf1 hap' hc' hrw hsm
                              go_wp2_with fail
                              go_roundw
                              case rel => exact ⟨i + 1, R1, R', by omega, by go_num, Lib.hid ⟨by rw [heldRow_succ, hk1y.out]; exact hR1x.out, by rw [pre_succ, hk2y.out]; exact hR2.out, hH.out.re (.step (.there (.here _ _)) (.step (.here _ _) (.drop (.drop (.same _)))))⟩⟩
                              case measure => (simp [intOf]; try omega)
                            · rw [if_pos (by rfl)]
                              go_simp
                              have HB : SL (w5.alloc (.cells #[.int .i64 k, .int .i64 i, .int .i64 D, .int .i64 mid, .int .i64 xb] 31)) (gM C S :: .blk w5.heap.size (mvCells ⟨k, i, D, mid, xb⟩) 31 :: gH B R1 :: .blk X23 [.int .i64 mid, .int .i64 xb] 29 :: .blk X22 [.int .i64 xa, .int .i64 mid] 29 :: L) := (H.alloc (mvCells ⟨k, i, D, mid, xb⟩) 31).pull (.there (.here _ _))
                              clear H hHeld
                              have H := HB
                              clear HB
                              generalize w5.alloc (.cells #[.int .i64 k, .int .i64 i, .int .i64 D, .int .i64 mid, .int .i64 xb] 31) = w6 at *
                              generalize w5.heap.size = g6 at *
                              refine hK.out _ _ ?_ (fun hHeld => ?_)
                              · first | exact hbx.out _ _ _ H (.there (.there (.here _ _))) | exact hbx.out _ _ _ H (.there (.there (.there (.here _ _)))) | exact hbx.out _ _ _ H (.there (.here _ _)) | exact hbx.out _ _ _ H (.there (.there (.there (.there (.here _ _)))))
                              clear hK K
                              ((try simp only [Act.put]); (try simp only [List.setIfInBounds_toArray]); (try simp only [List.set_cons_succ]); (try simp only [List.set_cons_zero]))
                              refine callL (i := 5) rfl (by kernel_rfl) (fun K hK => ?_)
                              rw [if_pos (by rfl)]
                              have q := (hc'.out _ _ _ H (.here _ _)).1
                              go_simp
                              clear q
                              refine hK.out _ _ ?_ (fun hHeld => ?_)
                              · first | exact hbx.out _ _ _ H (.there (.there (.here _ _))) | exact hbx.out _ _ _ H (.there (.there (.there (.here _ _)))) | exact hbx.out _ _ _ H (.there (.here _ _)) | exact hbx.out _ _ _ H (.there (.there (.there (.there (.here _ _)))))
                              clear hK K
                              ((try simp only [Act.put]); (try simp only [List.setIfInBounds_toArray]); (try simp only [List.set_cons_succ]); (try simp only [List.set_cons_zero]))
                              refine callL (i := 14) rfl (by kernel_rfl) (fun K hK => ?_)
                              rw [if_pos (by rfl)]
                              obtain ⟨a2, c2, w7, hrun, hc1, hf1, hL7, hrw, R', hR', hsm, hst⟩ := hap'.out _ _ _ _ H
                              
                              refine Lib.wp_append_run _ _ _ _ _ rfl v0 (.slice (some ⟨g6, 0, none⟩) 1 1) rfl rfl _ _ hrun ?_
                              clear H hHeld hrun
                              have H := hL7
                              have hst2 := Lib.hid hst
                              clear hst hL7
                              refine hK.out _ _ ?_ (fun hHeld => ?_)
                              · first | exact hbx.out _ _ _ H (.there (.there (.here _ _))) | exact hbx.out _ _ _ H (.there (.there (.there (.here _ _)))) | exact hbx.out _ _ _ H (.there (.here _ _)) | exact hbx.out _ _ _ H (.there (.there (.there (.there (.here _ _)))))
                              clear hK K
                              ((try simp only [Act.put]); (try simp only [List.setIfInBounds_toArray]); (try simp only [List.set_cons_succ]); (try simp only [List.set_cons_zero]))
                              refine takeL (i := 15) rfl (by kernel_rfl) (by kernel_rfl) (by kernel_rfl) (fun _ _ _ _ h => h) hHeld ?_ (Or.inl ⟨by rfl, ?_⟩) ?_
                              rotate_left
                              · intro W hW
                                (try dsimp only at hW)
                                first | (go_simp; done) | (go_simp; with_reducible rfl)
                              ((try simp only [Act.put]); (try simp only [List.setIfInBounds_toArray]); (try simp only [List.set_cons_succ]); (try simp only [List.set_cons_zero]))
                              refine callL (i := 16) rfl (by kernel_rfl) (fun K hK => ?_)
                              rw [if_pos (by rfl)]
                              go_simp
                              
                              clear H hHeld
                              have H := hst2.out
                              clear hst2
                              refine hK.out _ _ ?_ (fun hHeld => ?_)
                              · first | exact hbx.out _ _ _ H (.there (.there (.here _ _))) | exact hbx.out _ _ _ H (.there (.there (.there (.here _ _)))) | exact hbx.out _ _ _ H (.there (.here _ _)) | exact hbx.out _ _ _ H (.there (.there (.there (.there (.here _ _)))))
                              clear hK K
                              ((try simp only [Act.put]); (try simp only [List.setIfInBounds_toArray]); (try simp only [List.set_cons_succ]); (try simp only [List.set_cons_zero]))
                              refine wpAnyH_done (by kernel_rfl) ?_ _
                              have hR2 := Lib.hid hR'
                              have hH := Lib.hid H
                              clear H hHeld hR' hc1 hf1 hap' hc' hrw hsm
                              go_wp2_with fail
                              go_roundw
                              case rel => exact ⟨i + 1, R1, R', by omega, by go_num, Lib.hid ⟨by rw [heldRow_succ, hk1y.out]; exact hR1x.out, by rw [pre_succ, hk2y.out]; exact hR2.out, hH.out.re (.step (.there (.here _ _)) (.step (.here _ _) (.drop (.drop (.same _)))))⟩⟩
                              case measure => (simp [intOf]; try omega)
                        · have hb1x : i / b0 % 2 = 1 := by omega
                          have hbi : ((wrap64 ((i : Int) / (b0 : Int))).tmod 2 == 0) = false := by rw [div_bit hip h2, hb1x]; rfl
                          go_upto_region 48 with (fail)
                          generalize ((wr.alloc (.cells #[.int .i64 xa, .int .i64 xb] 29)).alloc (.cells #[.int .i64 xa, .int .i64 mid] 29)).alloc (.cells #[.int .i64 mid, .int .i64 xb] 29) = w3 at *
                          generalize wr.heap.size + 1 + 1 = X23 at *
                          generalize wr.heap.size + 1 = X22 at *
                          have hH := hHA
                          clear hHA
                          obtain ⟨hk1x, hk3x, hk2x⟩ := hkx.out.2 hbit
                          obtain ⟨D, hD⟩ : ∃ D, i - b0 = D := ⟨_, rfl⟩
                          rw [hD] at hk2x
                          have hwD : IntKind.i64.wrap ((i : Int) - (b0 : Int)) = (D : Int) := by rw [show (i : Int) - (b0 : Int) = (D : Int) by omega]; exact wrapS (by omega)
                          have hk1y := Lib.hid hk1x
                          have hk2y := Lib.hid hk2x
                          clear hk1x hk2x hkx hD x1 x3 x4
                          have hbx : Hid (∀ W M M', SL W M → Pull M (.blk X23 [.int .i64 mid, .int .i64 xb] 29) M' → (fun W => W.cell? ⟨X23, 0, none⟩ = some (Value.int .i64 mid) ∧ W.cell? ⟨X23, 1, none⟩ = some (.int .i64 xb)) W) := Lib.hid fun W M M' h hp => ⟨h.cell hp rfl, h.cell hp rfl⟩
                          obtain ⟨T, hT⟩ : ∃ T : List Pc, gM C S :: .blk X23 [.int .i64 mid, .int .i64 xb] 29 :: .blk X22 [.int .i64 xa, .int .i64 mid] 29 :: L = T := ⟨_, rfl⟩
                          obtain ⟨xx, hxx⟩ : ∃ xx : Nat × Nat, (mid, xb) = xx := ⟨_, rfl⟩
                          obtain ⟨n1, hn1⟩ : ∃ n1, N + 1 = n1 := ⟨_, rfl⟩
                          obtain ⟨kk, hkk⟩ : ∃ kk, k + 1 = kk := ⟨_, rfl⟩
                          have hT2 := Lib.hid (And.intro hT (And.intro hxx (And.intro hn1 hkk)))
                          clear hT hxx hn1 hkk
                          go_cut [238] from 161 to 265 (fun _ V => CutH p s n1 kk i B xx T V)
                          case first =>
                            refine wp_region_held_drew (S := (fun W => W.cell? ⟨X23, 0, none⟩ = some (Value.int .i64 mid) ∧ W.cell? ⟨X23, 1, none⟩ = some (.int .i64 xb))) (by kernel_rfl) ?_ (fun hHeld => ?_)
                            · have H := hH.out.drew
                              first | exact hbx.out _ _ _ H (.there (.there (.here _ _))) | exact hbx.out _ _ _ H (.there (.there (.there (.here _ _)))) | exact hbx.out _ _ _ H (.there (.here _ _)) | exact hbx.out _ _ _ H (.there (.there (.there (.there (.here _ _)))))
                            have H := hH.out.drew
                            generalize World.drew w3 = w5 at *
                            clear hH
                            refine takeL (i := 0) rfl (by kernel_rfl) (by kernel_rfl) (by kernel_rfl) (fun _ _ _ _ h => h) hHeld ?_ (Or.inl ⟨by rfl, ?_⟩) ?_
                            rotate_left
                            · intro W hW
                              (try dsimp only at hW)
                              first | (go_simp; done) | (go_simp; with_reducible rfl)
                            ((try simp only [Act.put]); (try simp only [List.setIfInBounds_toArray]); (try simp only [List.set_cons_succ]); (try simp only [List.set_cons_zero]))
                            refine takeL (i := 1) rfl (by kernel_rfl) (by kernel_rfl) (by kernel_rfl) (fun _ _ _ _ h => h) hHeld ?_ (Or.inl ⟨by rfl, ?_⟩) ?_
                            rotate_left
                            · intro W hW
                              (try dsimp only at hW)
                              first | (go_simp; done) | (go_simp; with_reducible rfl)
                            ((try simp only [Act.put]); (try simp only [List.setIfInBounds_toArray]); (try simp only [List.set_cons_succ]); (try simp only [List.set_cons_zero]))
                            refine takeL (i := 2) rfl (by kernel_rfl) (by kernel_rfl) (by kernel_rfl) (fun _ _ _ _ h => h) hHeld ?_ (Or.inl ⟨by rfl, ?_⟩) ?_
                            rotate_left
                            · intro W hW
                              (try dsimp only at hW)
                              first | (go_simp; done) | (go_simp; with_reducible rfl)
                            ((try simp only [Act.put]); (try simp only [List.setIfInBounds_toArray]); (try simp only [List.set_cons_succ]); (try simp only [List.set_cons_zero]))
                            refine takeL (i := 3) rfl (by kernel_rfl) (by kernel_rfl) (by kernel_rfl) (fun _ _ _ _ h => h) hHeld ?_ (Or.inl ⟨by rfl, ?_⟩) ?_
                            rotate_left
                            · intro W hW
                              (try dsimp only at hW)
                              first | (go_simp; done) | (go_simp; with_reducible rfl)
                            ((try simp only [Act.put]); (try simp only [List.setIfInBounds_toArray]); (try simp only [List.set_cons_succ]); (try simp only [List.set_cons_zero]))
                            refine takeL (i := 4) rfl (by kernel_rfl) (by kernel_rfl) (by kernel_rfl) (fun _ _ _ _ h => h) hHeld ?_ (Or.inl ⟨by rfl, ?_⟩) ?_
                            rotate_left
                            · intro W hW
                              (try dsimp only at hW)
                              first | (go_simp; done) | (go_simp; with_reducible rfl)
                            ((try simp only [Act.put]); (try simp only [List.setIfInBounds_toArray]); (try simp only [List.set_cons_succ]); (try simp only [List.set_cons_zero]))
                            refine takeL (i := 5) rfl (by kernel_rfl) (by kernel_rfl) (by kernel_rfl) (fun _ _ _ _ h => h) hHeld ?_ (Or.inl ⟨by rfl, ?_⟩) ?_
                            rotate_left
                            · intro W hW
                              (try dsimp only at hW)
                              first | (go_simp; done) | (go_simp; with_reducible rfl)
                            ((try simp only [Act.put]); (try simp only [List.setIfInBounds_toArray]); (try simp only [List.set_cons_succ]); (try simp only [List.set_cons_zero]))
                            refine takeL (i := 6) rfl (by kernel_rfl) (by kernel_rfl) (by kernel_rfl) (fun _ _ _ _ h => h) hHeld ?_ (Or.inl ⟨by rfl, ?_⟩) ?_
                            rotate_left
                            · intro W hW
                              (try dsimp only at hW)
                              first | (go_simp; done) | (go_simp; with_reducible rfl)
                            ((try simp only [Act.put]); (try simp only [List.setIfInBounds_toArray]); (try simp only [List.set_cons_succ]); (try simp only [List.set_cons_zero]))
                            refine takeL (i := 8) rfl (by kernel_rfl) (by kernel_rfl) (by kernel_rfl) (fun _ _ _ _ h => h) hHeld ?_ (Or.inl ⟨by rfl, ?_⟩) ?_
                            rotate_left
                            · intro W hW
                              (try dsimp only at hW)
                              first | (go_simp; done) | (go_simp; with_reducible rfl)
                            ((try simp only [Act.put]); (try simp only [List.setIfInBounds_toArray]); (try simp only [List.set_cons_succ]); (try simp only [List.set_cons_zero]))
                            refine callL2 (i := 7) (j := 9) rfl rfl (by kernel_rfl) (fun K hK => ?_) (fun K hK => ?_)
                            · rw [if_pos (by rfl)]
                              have q := (hc'.out _ _ _ H (.here _ _)).1
                              go_simp
                              clear q
                              refine hK.out _ _ ?_ (fun hHeld => ?_)
                              · first | exact hbx.out _ _ _ H (.there (.there (.here _ _))) | exact hbx.out _ _ _ H (.there (.there (.there (.here _ _)))) | exact hbx.out _ _ _ H (.there (.here _ _)) | exact hbx.out _ _ _ H (.there (.there (.there (.there (.here _ _)))))
                              clear hK K
                              ((try simp only [Act.put]); (try simp only [List.setIfInBounds_toArray]); (try simp only [List.set_cons_succ]); (try simp only [List.set_cons_zero]))
                              refine callL (i := 9) rfl (by kernel_rfl) (fun K hK => ?_)
                              rw [if_pos (by rfl)]
                              go_simp
                              have HB : SL (w5.alloc (.cells #[.int .i64 mid, .int .i64 xb] 29)) (gH B R :: .blk w5.heap.size (spCells (mid, xb)) 29 :: gM C S :: .blk X23 [.int .i64 mid, .int .i64 xb] 29 :: .blk X22 [.int .i64 xa, .int .i64 mid] 29 :: L) := (H.alloc (spCells (mid, xb)) 29).pull (.there (.here _ _))
                              clear H hHeld
                              have H := HB
                              clear HB
                              generalize w5.alloc (.cells #[.int .i64 mid, .int .i64 xb] 29) = w6 at *
                              generalize w5.heap.size = g6 at *
                              refine hK.out _ _ ?_ (fun hHeld => ?_)
                              · first | exact hbx.out _ _ _ H (.there (.there (.here _ _))) | exact hbx.out _ _ _ H (.there (.there (.there (.here _ _)))) | exact hbx.out _ _ _ H (.there (.here _ _)) | exact hbx.out _ _ _ H (.there (.there (.there (.there (.here _ _)))))
                              clear hK K
                              ((try simp only [Act.put]); (try simp only [List.setIfInBounds_toArray]); (try simp only [List.set_cons_succ]); (try simp only [List.set_cons_zero]))
                              refine callL (i := 10) rfl (by kernel_rfl) (fun K hK => ?_)
                              rw [if_pos (by rfl)]
                              obtain ⟨a2, c2, w7, hrun, hc1, hf1, hL7, hrw, R', hR', hsm, hst⟩ := hap'.out _ _ _ _ H
                              
                              refine Lib.wp_append_run _ _ _ _ _ rfl v0 (.slice (some ⟨g6, 0, none⟩) 1 1) rfl rfl _ _ hrun ?_
                              clear H hHeld hrun
                              have H := hL7
                              have hst2 := Lib.hid hst
                              clear hst hL7
                              refine hK.out _ _ ?_ (fun hHeld => ?_)
                              · first | exact hbx.out _ _ _ H (.there (.there (.here _ _))) | exact hbx.out _ _ _ H (.there (.there (.there (.here _ _)))) | exact hbx.out _ _ _ H (.there (.here _ _)) | exact hbx.out _ _ _ H (.there (.there (.there (.there (.here _ _)))))
                              clear hK K
                              ((try simp only [Act.put]); (try simp only [List.setIfInBounds_toArray]); (try simp only [List.set_cons_succ]); (try simp only [List.set_cons_zero]))
                              refine takeL (i := 11) rfl (by kernel_rfl) (by kernel_rfl) (by kernel_rfl) (fun _ _ _ _ h => h) hHeld ?_ (Or.inl ⟨by rfl, ?_⟩) ?_
                              rotate_left
                              · intro W hW
                                (try dsimp only at hW)
                                first | (go_simp; done) | (go_simp; with_reducible rfl)
                              ((try simp only [Act.put]); (try simp only [List.setIfInBounds_toArray]); (try simp only [List.set_cons_succ]); (try simp only [List.set_cons_zero]))
                              refine callL (i := 12) rfl (by kernel_rfl) (fun K hK => ?_)
                              rw [if_pos (by rfl)]
                              go_simp
                              
                              clear H hHeld
                              have H := hst2.out
                              clear hst2
                              refine hK.out _ _ ?_ (fun hHeld => ?_)
                              · first | exact hbx.out _ _ _ H (.there (.there (.here _ _))) | exact hbx.out _ _ _ H (.there (.there (.there (.here _ _)))) | exact hbx.out _ _ _ H (.there (.here _ _)) | exact hbx.out _ _ _ H (.there (.there (.there (.there (.here _ _)))))
                              clear hK K
                              ((try simp only [Act.put]); (try simp only [List.setIfInBounds_toArray]); (try simp only [List.set_cons_succ]); (try simp only [List.set_cons_zero]))
                              refine wpAnyH_done (by kernel_rfl) ?_ _
                              have hR2 := Lib.hid hR'
                              have hH := Lib.hid H
                              clear H hHeld hR' hc1 hf1 hap' hc' hrw hsm
                              go_wp2_with fail
                              go_meet
                              case rel => exact ⟨R', by rw [← hT2.out.2.1, ← hT2.out.2.2.1, ← hT2.out.2.2.2]; exact hR2.out, by rw [← hT2.out.1]; exact hH.out⟩
                            · rw [if_pos (by rfl)]
                              go_simp
                              have HB : SL (w5.alloc (.cells #[.int .i64 mid, .int .i64 xb] 29)) (gH B R :: .blk w5.heap.size (spCells (mid, xb)) 29 :: gM C S :: .blk X23 [.int .i64 mid, .int .i64 xb] 29 :: .blk X22 [.int .i64 xa, .int .i64 mid] 29 :: L) := (H.alloc (spCells (mid, xb)) 29).pull (.there (.here _ _))
                              clear H hHeld
                              have H := HB
                              clear HB
                              generalize w5.alloc (.cells #[.int .i64 mid, .int .i64 xb] 29) = w6 at *
                              generalize w5.heap.size = g6 at *
                              refine hK.out _ _ ?_ (fun hHeld => ?_)
                              · first | exact hbx.out _ _ _ H (.there (.there (.here _ _))) | exact hbx.out _ _ _ H (.there (.there (.there (.here _ _)))) | exact hbx.out _ _ _ H (.there (.here _ _)) | exact hbx.out _ _ _ H (.there (.there (.there (.there (.here _ _)))))
                              clear hK K
                              ((try simp only [Act.put]); (try simp only [List.setIfInBounds_toArray]); (try simp only [List.set_cons_succ]); (try simp only [List.set_cons_zero]))
                              refine callL (i := 7) rfl (by kernel_rfl) (fun K hK => ?_)
                              rw [if_pos (by rfl)]
                              have q := (hc'.out _ _ _ H (.here _ _)).1
                              go_simp
                              clear q
                              refine hK.out _ _ ?_ (fun hHeld => ?_)
                              · first | exact hbx.out _ _ _ H (.there (.there (.here _ _))) | exact hbx.out _ _ _ H (.there (.there (.there (.here _ _)))) | exact hbx.out _ _ _ H (.there (.here _ _)) | exact hbx.out _ _ _ H (.there (.there (.there (.there (.here _ _)))))
                              clear hK K
                              ((try simp only [Act.put]); (try simp only [List.setIfInBounds_toArray]); (try simp only [List.set_cons_succ]); (try simp only [List.set_cons_zero]))
                              refine callL (i := 10) rfl (by kernel_rfl) (fun K hK => ?_)
                              rw [if_pos (by rfl)]
                              obtain ⟨a2, c2, w7, hrun, hc1, hf1, hL7, hrw, R', hR', hsm, hst⟩ := hap'.out _ _ _ _ H
                              
                              refine Lib.wp_append_run _ _ _ _ _ rfl v0 (.slice (some ⟨g6, 0, none⟩) 1 1) rfl rfl _ _ hrun ?_
                              clear H hHeld hrun
                              have H := hL7
                              have hst2 := Lib.hid hst
                              clear hst hL7
                              refine hK.out _ _ ?_ (fun hHeld => ?_)
                              · first | exact hbx.out _ _ _ H (.there (.there (.here _ _))) | exact hbx.out _ _ _ H (.there (.there (.there (.here _ _)))) | exact hbx.out _ _ _ H (.there (.here _ _)) | exact hbx.out _ _ _ H (.there (.there (.there (.there (.here _ _)))))
                              clear hK K
                              ((try simp only [Act.put]); (try simp only [List.setIfInBounds_toArray]); (try simp only [List.set_cons_succ]); (try simp only [List.set_cons_zero]))
                              refine takeL (i := 11) rfl (by kernel_rfl) (by kernel_rfl) (by kernel_rfl) (fun _ _ _ _ h => h) hHeld ?_ (Or.inl ⟨by rfl, ?_⟩) ?_
                              rotate_left
                              · intro W hW
                                (try dsimp only at hW)
                                first | (go_simp; done) | (go_simp; with_reducible rfl)
                              ((try simp only [Act.put]); (try simp only [List.setIfInBounds_toArray]); (try simp only [List.set_cons_succ]); (try simp only [List.set_cons_zero]))
                              refine callL (i := 12) rfl (by kernel_rfl) (fun K hK => ?_)
                              rw [if_pos (by rfl)]
                              go_simp
                              
                              clear H hHeld
                              have H := hst2.out
                              clear hst2
                              refine hK.out _ _ ?_ (fun hHeld => ?_)
                              · first | exact hbx.out _ _ _ H (.there (.there (.here _ _))) | exact hbx.out _ _ _ H (.there (.there (.there (.here _ _)))) | exact hbx.out _ _ _ H (.there (.here _ _)) | exact hbx.out _ _ _ H (.there (.there (.there (.there (.here _ _)))))
                              clear hK K
                              ((try simp only [Act.put]); (try simp only [List.setIfInBounds_toArray]); (try simp only [List.set_cons_succ]); (try simp only [List.set_cons_zero]))
                              refine wpAnyH_done (by kernel_rfl) ?_ _
                              have hR2 := Lib.hid hR'
                              have hH := Lib.hid H
                              clear H hHeld hR' hc1 hf1 hap' hc' hrw hsm
                              go_wp2_with fail
                              go_meet
                              case rel => exact ⟨R', by rw [← hT2.out.2.1, ← hT2.out.2.2.1, ← hT2.out.2.2.2]; exact hR2.out, by rw [← hT2.out.1]; exact hH.out⟩
                          case rest =>
                            clear hH hbx hc' hap'
                            obtain ⟨R1, hR1c, HV⟩ := hcut
                            rw [← hT2.out.2.1, ← hT2.out.2.2.1, ← hT2.out.2.2.2] at hR1c
                            rw [← hT2.out.1] at HV
                            have hR1x := Lib.hid hR1c
                            obtain ⟨v0, hc, hap⟩ := g_app elemMv (f := mvCells) (fun _ => rfl) mv_cells1 (by decide) (ty := 24) (B := C) hS.out (show k < N by omega) (by omega)
                            generalize (pre 1 p s k i).length = nl at hap
                            have hc' := Lib.hid hc
                            have hap' := Lib.hid hap
                            have hH := Lib.hid (HV.pull (.there (.here _ _)))
                            clear hc hap HV hR1c
                            have hbx : Hid (∀ W M M', SL W M → Pull M (.blk X22 [.int .i64 xa, .int .i64 mid] 29) M' → (fun W => W.cell? ⟨X22, 0, none⟩ = some (Value.int .i64 xa) ∧ W.cell? ⟨X22, 1, none⟩ = some (.int .i64 mid)) W) := Lib.hid fun W M M' h hp => ⟨h.cell hp rfl, h.cell hp rfl⟩
                            go_wp2_with fail
                            refine wp_region_held_drew (S := (fun W => W.cell? ⟨X22, 0, none⟩ = some (Value.int .i64 xa) ∧ W.cell? ⟨X22, 1, none⟩ = some (.int .i64 mid))) (by kernel_rfl) ?_ (fun hHeld => ?_)
                            · have H := hH.out.drew
                              first | exact hbx.out _ _ _ H (.there (.there (.here _ _))) | exact hbx.out _ _ _ H (.there (.there (.there (.here _ _)))) | exact hbx.out _ _ _ H (.there (.here _ _)) | exact hbx.out _ _ _ H (.there (.there (.there (.there (.here _ _)))))
                            have H := hH.out.drew
                            generalize World.drew wc = w5 at *
                            clear hH
                            refine takeL (i := 0) rfl (by kernel_rfl) (by kernel_rfl) (by kernel_rfl) (fun _ _ _ _ h => h) hHeld ?_ (Or.inl ⟨by rfl, ?_⟩) ?_
                            rotate_left
                            · intro W hW
                              (try dsimp only at hW)
                              first | (go_simp; done) | (go_simp; with_reducible rfl)
                            ((try simp only [Act.put]); (try simp only [List.setIfInBounds_toArray]); (try simp only [List.set_cons_succ]); (try simp only [List.set_cons_zero]))
                            refine takeL (i := 1) rfl (by kernel_rfl) (by kernel_rfl) (by kernel_rfl) (fun _ _ _ _ h => h) hHeld ?_ (Or.inl ⟨by rfl, ?_⟩) ?_
                            rotate_left
                            · intro W hW
                              (try dsimp only at hW)
                              first | (go_simp; done) | (go_simp; with_reducible rfl)
                            ((try simp only [Act.put]); (try simp only [List.setIfInBounds_toArray]); (try simp only [List.set_cons_succ]); (try simp only [List.set_cons_zero]))
                            refine takeL (i := 2) rfl (by kernel_rfl) (by kernel_rfl) (by kernel_rfl) (fun _ _ _ _ h => h) hHeld ?_ (Or.inl ⟨by rfl, ?_⟩) ?_
                            rotate_left
                            · intro W hW
                              (try dsimp only at hW)
                              first | (go_simp; done) | (go_simp; with_reducible rfl)
                            ((try simp only [Act.put]); (try simp only [List.setIfInBounds_toArray]); (try simp only [List.set_cons_succ]); (try simp only [List.set_cons_zero]))
                            refine takeL (i := 3) rfl (by kernel_rfl) (by kernel_rfl) (by kernel_rfl) (fun _ _ _ _ h => h) hHeld ?_ (Or.inl ⟨by rfl, ?_⟩) ?_
                            rotate_left
                            · intro W hW
                              (try dsimp only at hW)
                              first | (go_simp; done) | (go_simp; with_reducible rfl)
                            ((try simp only [Act.put]); (try simp only [List.setIfInBounds_toArray]); (try simp only [List.set_cons_succ]); (try simp only [List.set_cons_zero]))
                            refine takeL (i := 4) rfl (by kernel_rfl) (by kernel_rfl) (by kernel_rfl) (fun _ _ _ _ h => h) hHeld ?_ (Or.inl ⟨by rfl, ?_⟩) ?_
                            rotate_left
                            · intro W hW
                              (try dsimp only at hW)
                              first | (go_simp; done) | (go_simp; with_reducible rfl)
                            ((try simp only [Act.put]); (try simp only [List.setIfInBounds_toArray]); (try simp only [List.set_cons_succ]); (try simp only [List.set_cons_zero]))
                            refine takeL (i := 6) rfl (by kernel_rfl) (by kernel_rfl) (by kernel_rfl) (fun _ _ _ _ h => h) hHeld ?_ (Or.inl ⟨by rfl, ?_⟩) ?_
                            rotate_left
                            · intro W hW
                              (try dsimp only at hW)
                              first | (go_simp; done) | (go_simp; with_reducible rfl)
                            ((try simp only [Act.put]); (try simp only [List.setIfInBounds_toArray]); (try simp only [List.set_cons_succ]); (try simp only [List.set_cons_zero]))
                            refine takeL (i := 7) rfl (by kernel_rfl) (by kernel_rfl) (by kernel_rfl) (fun _ _ _ _ h => h) hHeld ?_ (Or.inl ⟨by rfl, ?_⟩) ?_
                            rotate_left
                            · intro W hW
                              (try dsimp only at hW)
                              first | (go_simp; done) | (go_simp; with_reducible rfl)
                            ((try simp only [Act.put]); (try simp only [List.setIfInBounds_toArray]); (try simp only [List.set_cons_succ]); (try simp only [List.set_cons_zero]))
                            refine takeL (i := 8) rfl (by kernel_rfl) (by kernel_rfl) (by kernel_rfl) (fun _ _ _ _ h => h) hHeld ?_ (Or.inl ⟨by rfl, ?_⟩) ?_
                            rotate_left
                            · intro W hW
                              (try dsimp only at hW)
                              first | (go_simp; done) | (go_simp; with_reducible rfl)
                            ((try simp only [Act.put]); (try simp only [List.setIfInBounds_toArray]); (try simp only [List.set_cons_succ]); (try simp only [List.set_cons_zero]))
                            refine takeL (i := 9) rfl (by kernel_rfl) (by kernel_rfl) (by kernel_rfl) (fun _ _ _ _ h => h) hHeld ?_ (Or.inl ⟨by rfl, ?_⟩) ?_
                            rotate_left
                            · intro W hW
                              (try dsimp only at hW)
                              first | (go_simp; done) | (go_simp; with_reducible rfl)
                            ((try simp only [Act.put]); (try simp only [List.setIfInBounds_toArray]); (try simp only [List.set_cons_succ]); (try simp only [List.set_cons_zero]))
                            refine takeL (i := 10) rfl (by kernel_rfl) (by kernel_rfl) (by kernel_rfl) (fun _ _ _ _ h => h) hHeld ?_ (Or.inl ⟨by rfl, ?_⟩) ?_
                            rotate_left
                            · intro W hW
                              (try dsimp only at hW)
                              first | (go_simp; done) | (go_simp; with_reducible rfl)
                            ((try simp only [Act.put]); (try simp only [List.setIfInBounds_toArray]); (try simp only [List.set_cons_succ]); (try simp only [List.set_cons_zero]))
                            refine takeL (i := 11) rfl (by kernel_rfl) (by kernel_rfl) (by kernel_rfl) (fun _ _ _ _ h => h) hHeld ?_ (Or.inl ⟨by rfl, ?_⟩) ?_
                            rotate_left
                            · intro W hW
                              (try dsimp only at hW)
                              first | (go_simp; done) | (go_simp; with_reducible rfl)
                            ((try simp only [Act.put]); (try simp only [List.setIfInBounds_toArray]); (try simp only [List.set_cons_succ]); (try simp only [List.set_cons_zero]))
                            refine takeL (i := 12) rfl (by kernel_rfl) (by kernel_rfl) (by kernel_rfl) (fun _ _ _ _ h => h) hHeld ?_ (Or.inl ⟨by rfl, ?_⟩) ?_
                            rotate_left
                            · intro W hW
                              (try dsimp only at hW)
                              first | (go_simp; done) | (go_simp; with_reducible rfl)
                            ((try simp only [Act.put]); (try simp only [List.setIfInBounds_toArray]); (try simp only [List.set_cons_succ]); (try simp only [List.set_cons_zero]))
                            refine callL2 (i := 5) (j := 13) rfl rfl (by kernel_rfl) (fun K hK => ?_) (fun K hK => ?_)
                            · rw [if_pos (by rfl)]
                              have q := (hc'.out _ _ _ H (.here _ _)).1
                              go_simp
                              clear q
                              refine hK.out _ _ ?_ (fun hHeld => ?_)
                              · first | exact hbx.out _ _ _ H (.there (.there (.here _ _))) | exact hbx.out _ _ _ H (.there (.there (.there (.here _ _)))) | exact hbx.out _ _ _ H (.there (.here _ _)) | exact hbx.out _ _ _ H (.there (.there (.there (.there (.here _ _)))))
                              clear hK K
                              ((try simp only [Act.put]); (try simp only [List.setIfInBounds_toArray]); (try simp only [List.set_cons_succ]); (try simp only [List.set_cons_zero]))
                              refine callL (i := 13) rfl (by kernel_rfl) (fun K hK => ?_)
                              rw [if_pos (by rfl)]
                              go_simp
                              have HB : SL (w5.alloc (.cells #[.int .i64 k, .int .i64 i, .int .i64 D, .int .i64 xa, .int .i64 mid] 31)) (gM C S :: .blk w5.heap.size (mvCells ⟨k, i, D, xa, mid⟩) 31 :: gH B R1 :: .blk X23 [.int .i64 mid, .int .i64 xb] 29 :: .blk X22 [.int .i64 xa, .int .i64 mid] 29 :: L) := (H.alloc (mvCells ⟨k, i, D, xa, mid⟩) 31).pull (.there (.here _ _))
                              clear H hHeld
                              have H := HB
                              clear HB
                              generalize w5.alloc (.cells #[.int .i64 k, .int .i64 i, .int .i64 D, .int .i64 xa, .int .i64 mid] 31) = w6 at *
                              generalize w5.heap.size = g6 at *
                              refine hK.out _ _ ?_ (fun hHeld => ?_)
                              · first | exact hbx.out _ _ _ H (.there (.there (.here _ _))) | exact hbx.out _ _ _ H (.there (.there (.there (.here _ _)))) | exact hbx.out _ _ _ H (.there (.here _ _)) | exact hbx.out _ _ _ H (.there (.there (.there (.there (.here _ _)))))
                              clear hK K
                              ((try simp only [Act.put]); (try simp only [List.setIfInBounds_toArray]); (try simp only [List.set_cons_succ]); (try simp only [List.set_cons_zero]))
                              refine callL (i := 14) rfl (by kernel_rfl) (fun K hK => ?_)
                              rw [if_pos (by rfl)]
                              obtain ⟨a2, c2, w7, hrun, hc1, hf1, hL7, hrw, R', hR', hsm, hst⟩ := hap'.out _ _ _ _ H
                              
                              refine Lib.wp_append_run _ _ _ _ _ rfl v0 (.slice (some ⟨g6, 0, none⟩) 1 1) rfl rfl _ _ hrun ?_
                              clear H hHeld hrun
                              have H := hL7
                              have hst2 := Lib.hid hst
                              clear hst hL7
                              refine hK.out _ _ ?_ (fun hHeld => ?_)
                              · first | exact hbx.out _ _ _ H (.there (.there (.here _ _))) | exact hbx.out _ _ _ H (.there (.there (.there (.here _ _)))) | exact hbx.out _ _ _ H (.there (.here _ _)) | exact hbx.out _ _ _ H (.there (.there (.there (.there (.here _ _)))))
                              clear hK K
                              ((try simp only [Act.put]); (try simp only [List.setIfInBounds_toArray]); (try simp only [List.set_cons_succ]); (try simp only [List.set_cons_zero]))
                              refine takeL (i := 15) rfl (by kernel_rfl) (by kernel_rfl) (by kernel_rfl) (fun _ _ _ _ h => h) hHeld ?_ (Or.inl ⟨by rfl, ?_⟩) ?_
                              rotate_left
                              · intro W hW
                                (try dsimp only at hW)
                                first | (go_simp; done) | (go_simp; with_reducible rfl)
                              ((try simp only [Act.put]); (try simp only [List.setIfInBounds_toArray]); (try simp only [List.set_cons_succ]); (try simp only [List.set_cons_zero]))
                              refine callL (i := 16) rfl (by kernel_rfl) (fun K hK => ?_)
                              rw [if_pos (by rfl)]
                              go_simp
                              
                              clear H hHeld
                              have H := hst2.out
                              clear hst2
                              refine hK.out _ _ ?_ (fun hHeld => ?_)
                              · first | exact hbx.out _ _ _ H (.there (.there (.here _ _))) | exact hbx.out _ _ _ H (.there (.there (.there (.here _ _)))) | exact hbx.out _ _ _ H (.there (.here _ _)) | exact hbx.out _ _ _ H (.there (.there (.there (.there (.here _ _)))))
                              clear hK K
                              ((try simp only [Act.put]); (try simp only [List.setIfInBounds_toArray]); (try simp only [List.set_cons_succ]); (try simp only [List.set_cons_zero]))
                              refine wpAnyH_done (by kernel_rfl) ?_ _
                              have hR2 := Lib.hid hR'
                              have hH := Lib.hid H
                              clear H hHeld hR' hc1 hf1 hap' hc' hrw hsm
                              go_wp2_with fail
                              go_roundw
                              case rel => exact ⟨i + 1, R1, R', by omega, by go_num, Lib.hid ⟨by rw [heldRow_succ, hk1y.out]; exact hR1x.out, by rw [pre_succ, hk2y.out]; exact hR2.out, hH.out.re (.step (.there (.here _ _)) (.step (.here _ _) (.drop (.drop (.same _)))))⟩⟩
                              case measure => (simp [intOf]; try omega)
                            · rw [if_pos (by rfl)]
                              go_simp
                              have HB : SL (w5.alloc (.cells #[.int .i64 k, .int .i64 i, .int .i64 D, .int .i64 xa, .int .i64 mid] 31)) (gM C S :: .blk w5.heap.size (mvCells ⟨k, i, D, xa, mid⟩) 31 :: gH B R1 :: .blk X23 [.int .i64 mid, .int .i64 xb] 29 :: .blk X22 [.int .i64 xa, .int .i64 mid] 29 :: L) := (H.alloc (mvCells ⟨k, i, D, xa, mid⟩) 31).pull (.there (.here _ _))
                              clear H hHeld
                              have H := HB
                              clear HB
                              generalize w5.alloc (.cells #[.int .i64 k, .int .i64 i, .int .i64 D, .int .i64 xa, .int .i64 mid] 31) = w6 at *
                              generalize w5.heap.size = g6 at *
                              refine hK.out _ _ ?_ (fun hHeld => ?_)
                              · first | exact hbx.out _ _ _ H (.there (.there (.here _ _))) | exact hbx.out _ _ _ H (.there (.there (.there (.here _ _)))) | exact hbx.out _ _ _ H (.there (.here _ _)) | exact hbx.out _ _ _ H (.there (.there (.there (.there (.here _ _)))))
                              clear hK K
                              ((try simp only [Act.put]); (try simp only [List.setIfInBounds_toArray]); (try simp only [List.set_cons_succ]); (try simp only [List.set_cons_zero]))
                              refine callL (i := 5) rfl (by kernel_rfl) (fun K hK => ?_)
                              rw [if_pos (by rfl)]
                              have q := (hc'.out _ _ _ H (.here _ _)).1
                              go_simp
                              clear q
                              refine hK.out _ _ ?_ (fun hHeld => ?_)
                              · first | exact hbx.out _ _ _ H (.there (.there (.here _ _))) | exact hbx.out _ _ _ H (.there (.there (.there (.here _ _)))) | exact hbx.out _ _ _ H (.there (.here _ _)) | exact hbx.out _ _ _ H (.there (.there (.there (.there (.here _ _)))))
                              clear hK K
                              ((try simp only [Act.put]); (try simp only [List.setIfInBounds_toArray]); (try simp only [List.set_cons_succ]); (try simp only [List.set_cons_zero]))
                              refine callL (i := 14) rfl (by kernel_rfl) (fun K hK => ?_)
                              rw [if_pos (by rfl)]
                              obtain ⟨a2, c2, w7, hrun, hc1, hf1, hL7, hrw, R', hR', hsm, hst⟩ := hap'.out _ _ _ _ H
                              
                              refine Lib.wp_append_run _ _ _ _ _ rfl v0 (.slice (some ⟨g6, 0, none⟩) 1 1) rfl rfl _ _ hrun ?_
                              clear H hHeld hrun
                              have H := hL7
                              have hst2 := Lib.hid hst
                              clear hst hL7
                              refine hK.out _ _ ?_ (fun hHeld => ?_)
                              · first | exact hbx.out _ _ _ H (.there (.there (.here _ _))) | exact hbx.out _ _ _ H (.there (.there (.there (.here _ _)))) | exact hbx.out _ _ _ H (.there (.here _ _)) | exact hbx.out _ _ _ H (.there (.there (.there (.there (.here _ _)))))
                              clear hK K
                              ((try simp only [Act.put]); (try simp only [List.setIfInBounds_toArray]); (try simp only [List.set_cons_succ]); (try simp only [List.set_cons_zero]))
                              refine takeL (i := 15) rfl (by kernel_rfl) (by kernel_rfl) (by kernel_rfl) (fun _ _ _ _ h => h) hHeld ?_ (Or.inl ⟨by rfl, ?_⟩) ?_
                              rotate_left
                              · intro W hW
                                (try dsimp only at hW)
                                first | (go_simp; done) | (go_simp; with_reducible rfl)
                              ((try simp only [Act.put]); (try simp only [List.setIfInBounds_toArray]); (try simp only [List.set_cons_succ]); (try simp only [List.set_cons_zero]))
                              refine callL (i := 16) rfl (by kernel_rfl) (fun K hK => ?_)
                              rw [if_pos (by rfl)]
                              go_simp
                              
                              clear H hHeld
                              have H := hst2.out
                              clear hst2
                              refine hK.out _ _ ?_ (fun hHeld => ?_)
                              · first | exact hbx.out _ _ _ H (.there (.there (.here _ _))) | exact hbx.out _ _ _ H (.there (.there (.there (.here _ _)))) | exact hbx.out _ _ _ H (.there (.here _ _)) | exact hbx.out _ _ _ H (.there (.there (.there (.there (.here _ _)))))
                              clear hK K
                              ((try simp only [Act.put]); (try simp only [List.setIfInBounds_toArray]); (try simp only [List.set_cons_succ]); (try simp only [List.set_cons_zero]))
                              refine wpAnyH_done (by kernel_rfl) ?_ _
                              have hR2 := Lib.hid hR'
                              have hH := Lib.hid H
                              clear H hHeld hR' hc1 hf1 hap' hc' hrw hsm
                              go_wp2_with fail
                              go_roundw
                              case rel => exact ⟨i + 1, R1, R', by omega, by go_num, Lib.hid ⟨by rw [heldRow_succ, hk1y.out]; exact hR1x.out, by rw [pre_succ, hk2y.out]; exact hR2.out, hH.out.re (.step (.there (.here _ _)) (.step (.here _ _) (.drop (.drop (.same _)))))⟩⟩
                              case measure => (simp [intOf]; try omega)
                      · have hlx := Lib.hid (late_round (s := s) (r := r) (p := p) (i := i) (by rw [← hqe.out]; omega))
                        rw [show r + 2 = k + 1 by rw [hr'.out], show r + 1 = k from hr'.out.symm] at hlx
                        obtain ⟨v1, hc, hap⟩ := g_app elemSp (f := spCells) (fun _ => rfl) sp_cells1 (by decide) (ty := 33) (B := B) hh.out.1 (show k + 1 < N + 1 by omega) (by rw [heldRow_len]; omega)
                        have z1 := (hc wr _ _ hh.out.2.2 (.here _ _)).1
                        have HA : Hid (SL (wr.alloc (.cells #[.int .i64 0, .int .i64 0] 29)) (gH B R :: .blk wr.heap.size (spCells (0, 0)) 29 :: gM C S :: L)) := Lib.hid ((hh.out.2.2.alloc (spCells (0, 0)) 29).pull (.there (.here _ _)))
                        have hap1 := Lib.hid hap
                        have hS := Lib.hid hh.out.2.1
                        clear hc hap hh
                        go_wp2_with (at_builtin; obtain ⟨a1, c1, w', hrun, hc1, hf1, -, -, R1, hR1', -, hst⟩ := hap1.out _ _ _ _ HA.out; refine arm_app rfl _ _ _ rfl v1 (.slice (some ⟨wr.heap.size, 0, none⟩) 1 1) rfl rfl hrun ?_; have hR1x := Lib.hid hR1'; have hst1 := Lib.hid hst; clear hrun hR1' hst z1 HA hap1)
                        go_roundw
                        case rel => exact ⟨i + 1, R1, S, by omega, by go_num, Lib.hid ⟨by rw [heldRow_succ, hlx.out.1]; exact hR1x.out, by rw [pre_succ, hlx.out.2, List.append_nil]; exact hS.out, hst1.out⟩⟩
                        case measure => (simp [intOf]; try omega)
                    · obtain rfl : p = i := by omega
                      have hb2 : 2 * b0 ≤ 64 := by
                        have e : 2 * b0 = 2 ^ k := by rw [Nat.mul_comm, hbe.out, ← Nat.pow_succ]; congr 1; omega
                        rw [e]
                        exact Nat.le_trans (Nat.pow_le_pow_right (by omega) (show k ≤ 6 by omega)) (by decide)
                      have hb3 := Lib.hid (show 2 * b0 = 2 ^ (k + 1 - 1) from by rw [Nat.mul_comm, hbe.out, ← Nat.pow_succ]; congr 1; omega)
                      go_wp2_with fail
                      go_roundw
                      case rel => exact ⟨k + 1, 2 * b0, R, S, by omega, by omega, by go_num, by go_num, by omega, by omega, hb3, Lib.hid ⟨by rw [hh.out.1]; exact stage_next (fun j => heldRow 1 p s j p) (N + 1) (k + 1), by rw [hh.out.2.1, show pre 1 p s k p = movesOf 1 p s k from rfl]; exact stage_next (movesOf 1 p s) N k, hh.out.2.2⟩⟩
                      case measure => (simp [intOf]; try omega)
                · obtain rfl : N = k := by omega
                  go_wp2_with fail
                  go_ret2
                  exact ⟨B, C, R, S, rfl, by rw [hh.out.1]; exact stage_all _ (Nat.le_refl _) _, by rw [hh.out.2.1]; exact stage_all _ (Nat.le_refl _) _, hh.out.2.2⟩
end Go.Proofs.Ytamhlmfcnnomgaa
