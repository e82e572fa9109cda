/- The reference's Plan, straight. -/
import Derived.Test.YtamhlmfcnnomgaaPlanG
import Derived.Test.YtamhlmfcnnomgaaSame
import Derived.Deep.CutBlock
import Derived.Deep.CutRange
import Derived.Shelf.RegionOpen
import Derived.Lib.AppendZeros
import Derived.IntWalk
namespace Go.Proofs.Ytamhlmfcnnomgaa
open Go.RowKit
set_option linter.unusedVariables false

set_option maxRecDepth 100000 in
set_option maxHeartbeats 16000000 in
theorem plan_direct (p s : Nat) (h1 : 1 ≤ p) (h2 : p ≤ 64) (h3 : s ≤ 4096) {L : List Pc} {w : World} (H : SL w L) :
    Calls Try.prog 17 #[.int .i64 2, .int .i64 p, .int .i64 s] w fun e w' => ∃ B C R S, e = .returned (.tuple #[.slice (some ⟨B, 0, none⟩) 2 2, .slice (some ⟨C, 0, none⟩) 1 1]) ∧
      R.map (·.2) = wholeX (fun k => heldRow 2 p s k p) 2 ∧ S.map (·.2) = wholeX (movesOf 2 p s) 1 ∧ SL w' (gH B R :: gM C S :: L) := by
  have hmx : Try.prog.follows .mixedOrders = true := by kernel_rfl
  have hrr := Lib.hid (fun w => rrounds_c 2 p w (by omega) h1 h2)
  have hro : roundsOf 2 p = 1 := by simp [roundsOf]
  rw [hro] at hrr
  clear hro
  obtain ⟨w1, hr0, H1⟩ := H.made elemHd1 .i64 .i64 2 (by omega) (by simp only [maxLen]; omega)
  rw [made_one _ _ rfl] at H1
  have hr1 : (Instr.makeSlice 39 (.int .i64 2) (.int .i64 2)).run Try.prog w = .ok (.slice (some ⟨w.heap.size, 0, none⟩) 2 2) w1 := hr0
  have G1 := grid_made (e := 29) (k := 2) (f := spCells) H1
  obtain ⟨w2, hr0', H2⟩ := G1.made elemHd2 .i64 .i64 1 (by omega) (by simp only [maxLen]; omega)
  rw [made_one _ _ rfl] at H2
  have hr2 : (Instr.makeSlice 40 (.int .i64 1) (.int .i64 1)).run Try.prog w1 = .ok (.slice (some ⟨w1.heap.size, 0, none⟩) 1 1) w2 := hr0'
  have G2 := (grid_made (e := 31) (k := 5) (f := mvCells) H2).pull (.there (.here _ _))
  have hH := Lib.hid G2
  clear H H1 H2 G1 G2 hr0 hr0'
  have hR0 : Hid ((List.replicate 2 ((Value.slice none 0 0, []) : Value × List (Nat × Nat))).map (·.2) = stage (fun j => heldRow 2 p s j p) 2 0 (heldRow 2 p s 0 0)) := Lib.hid (by rw [show heldRow 2 p s 0 0 = [] from rfl, stage_zero, List.map_replicate])
  have hS0 : Hid ((List.replicate 1 ((Value.slice none 0 0, []) : Value × List Mv)).map (·.2) = stage (movesOf 2 p s) 1 0 (pre 2 p s 0 0)) := Lib.hid (by rw [show pre 2 p s 0 0 = [] from rfl, stage_zero, List.map_replicate])
  go_enter Try.func17, Try.ntmps17
  go_wp2_with fail
  refine (hrr.out _).mono ?_
  rintro e w' ⟨rfl, rfl⟩
  go_wp2_with fail
  generalize w.heap.size = B at *
  generalize w1.heap.size = C at *
  generalize List.replicate 2 ((Value.slice none 0 0, []) : Value × List (Nat × Nat)) = R0 at *
  generalize List.replicate 1 ((Value.slice none 0 0, []) : Value × List Mv) = S0 at *
  clear hr1 hr2 hrr
  go_loopw [11] (fun i wr => ∃ (i0 : Nat) (R : List (Value × List (Nat × Nat))), i0 ≤ p ∧ i = .int .i64 (i0 : Int) ∧ Hid (R.map (·.2) = stage (fun j => heldRow 2 p s j p) (2) 0 (heldRow 2 p s 0 i0) ∧ SL wr (gH B R :: gM C S0 :: L))) (fun i _ => p - (intOf i).toNat)
  case atStart => exact ⟨0, _, by omega, rfl, Lib.hid ⟨hR0.out, hH.out⟩⟩
  case round =>
    clear hH hR0
    obtain ⟨i, R, hi, rfl, hh⟩ := hrel
    by_cases hip : i < p
    · obtain ⟨v0, hc, hap⟩ := g_app elemSp (fun _ => rfl) sp_cells1 (by decide) (ty := 33) (B := B) hh.out.1 (show 0 < 2 by omega) (by rw [heldRow_len]; omega)
      have q0 := (hc wr _ _ hh.out.2 (.here _ _)).1
      have HA : Hid (SL (wr.alloc (.cells #[.int .i64 0, .int .i64 s] 29)) (gH B R :: .blk wr.heap.size (spCells (0, s)) 29 :: gM C S0 :: L)) := Lib.hid ((hh.out.2.alloc (spCells (0, s)) 29).pull (.there (.here _ _)))
      have hap' := Lib.hid hap
      clear hc hap hh
      go_wp2_with (at_builtin; obtain ⟨a2, c2, w', hrun, hc1, hf1, -, -, R', hR', -, hst⟩ := hap'.out _ _ _ _ HA.out; refine arm_app rfl _ _ _ rfl v0 (.slice (some ⟨wr.heap.size, 0, none⟩) 1 1) rfl rfl hrun ?_; have hR2 := Lib.hid hR'; have hst2 := Lib.hid hst; clear hrun hR' hst q0 HA hap')
      go_roundw
      case rel => exact ⟨i + 1, R', by omega, by go_num, Lib.hid ⟨by rw [heldRow_succ, held_first]; exact hR2.out, hst2.out⟩⟩
      case measure => (simp [intOf]; try omega)
    · obtain rfl : p = i := by omega
      have hR1 : Hid (R.map (·.2) = stage (fun j => heldRow 2 p s j p) 2 1 (heldRow 2 p s 1 0)) := Lib.hid (by rw [hh.out.1]; exact stage_next (fun j => heldRow 2 p s j p) 2 0)
      have hH := Lib.hid hh.out.2
      clear hh hip hi
      go_wp2_with fail

      go_loopw [12] (fun i wr => ∃ (i0 : Nat) (R : List (Value × List (Nat × Nat))), i0 ≤ p ∧ i = .int .i64 (i0 : Int) ∧ Hid (R.map (·.2) = stage (fun j => heldRow 2 p s j p) 2 1 (heldRow 2 p s 1 i0) ∧ SL wr (gH B R :: gM C S0 :: L))) (fun i _ => p - (intOf i).toNat)
      case atStart => exact ⟨0, _, by omega, rfl, Lib.hid ⟨hR1.out, hH.out⟩⟩
      case round =>
        clear hH hR1 R
        obtain ⟨i, R, hi, rfl, hh⟩ := hrel
        by_cases hip : i < p
        · obtain ⟨v0, hc, hap⟩ := g_app elemSp (fun _ => rfl) sp_cells1 (by decide) (ty := 33) (B := B) hh.out.1 (show 1 < 2 by omega) (by rw [heldRow_len]; omega)
          have hc' := Lib.hid hc
          have hap' := Lib.hid hap
          have hH := Lib.hid hh.out.2
          clear hc hap hh
          have b1 : i * s ≤ 1000000 := Nat.le_trans (Nat.mul_le_mul (show i ≤ 64 by omega) h3) (by omega)
          have b2 : (i + 1) * s ≤ 1000000 := Nat.le_trans (Nat.mul_le_mul (show i + 1 ≤ 64 by omega) h3) (by omega)
          have e1 : wrap64 ((i : Int) * (s : Int)) = ((i * s : Nat) : Int) := by rw [← Int.natCast_mul]; unfold wrap64; omega
          have e2 : wrap64 (((i : Int) + 1) * (s : Int)) = (((i + 1) * s : Nat) : Int) := by
            rw [show ((i : Int) + 1) = ((i + 1 : Nat) : Int) by omega, ← Int.natCast_mul]; unfold wrap64; omega
          have e3 : ((i * s : Nat) : Int) / (p : Int) = ((i * s / p : Nat) : Int) := (Int.natCast_ediv _ _).symm
          have e4 : (((i + 1) * s : Nat) : Int) / (p : Int) = (((i + 1) * s / p : Nat) : Int) := (Int.natCast_ediv _ _).symm
          have b3 : i * s / p ≤ i * s := Nat.div_le_self _ _
          have b4 : (i + 1) * s / p ≤ (i + 1) * s := Nat.div_le_self _ _
          have hp1 : (1 : Int) ≤ p := by omega
          have hpz : ((p : Int) == 0) = false := by simp; omega
          have hpz2 : decide (p = 0) = false := by simp; omega
          have hpz3 : ¬ (p : Int) = 0 := by omega
          have hx := Lib.hid (held_dir2 p s i)
          generalize i * s = X at *
          generalize (i + 1) * s = Y at *
          obtain ⟨X', hX'⟩ : ∃ X', X / p = X' := ⟨_, rfl⟩
          obtain ⟨Y', hY'⟩ : ∃ Y', Y / p = Y' := ⟨_, rfl⟩
          rw [hX'] at e3 b3 hx
          rw [hY'] at e4 b4 hx
          clear hX' hY'
          have hp0 : ¬ p = 0 := by omega
          have w1' : IntKind.i64.wrap ((i : Int) + 1) = (i : Int) + 1 := wrapS (n := i + 1) (by omega)
          have w2' : IntKind.i64.wrap ((i : Int) * (s : Int)) = (X : Int) := by rw [IntKind.wrap_i64]; unfold wrap64 at e1; exact e1
          have w3' : IntKind.i64.wrap (((i : Int) + 1) * (s : Int)) = (Y : Int) := by rw [IntKind.wrap_i64]; unfold wrap64 at e2; exact e2
          have w4' : IntKind.i64.wrap ((X : Int) / (p : Int)) = (X' : Int) := by rw [e3]; exact wrapS (Nat.le_trans b3 b1)
          have w5' : IntKind.i64.wrap ((Y : Int) / (p : Int)) = (Y' : Int) := by rw [e4]; exact wrapS (Nat.le_trans b4 b2)
          clear hpz hpz2 hpz3 e1 e2 e3 e4 hp1
          go_wp2_with fail
          refine wp_region_held_drew (S := (fun _ => True)) (by kernel_rfl) ?_ (fun hHeld => ?_)
          · have H := hH.out.drew
            trivial
          have H := hH.out.drew
          generalize World.drew wr = w5 at *
          clear hH
          refine takeL (i := 0) rfl (by kernel_rfl) (by kernel_rfl) (by kernel_rfl) (fun _ _ _ _ h => h) hHeld ?_ (Or.inl ⟨by rfl, ?_⟩) ?_
          rotate_left
          · intro W hW
            (try dsimp only at hW)
            first | (go_simp; done) | (go_simp; with_reducible rfl)
          ((try simp only [Act.put]); (try simp only [List.setIfInBounds_toArray]); (try simp only [List.set_cons_succ]); (try simp only [List.set_cons_zero]))
          refine takeL (i := 1) rfl (by kernel_rfl) (by kernel_rfl) (by kernel_rfl) (fun _ _ _ _ h => h) hHeld ?_ (Or.inl ⟨by rfl, ?_⟩) ?_
          rotate_left
          · intro W hW
            (try dsimp only at hW)
            first | (go_simp; done) | (go_simp; with_reducible rfl)
          ((try simp only [Act.put]); (try simp only [List.setIfInBounds_toArray]); (try simp only [List.set_cons_succ]); (try simp only [List.set_cons_zero]))
          refine takeL (i := 2) rfl (by kernel_rfl) (by kernel_rfl) (by kernel_rfl) (fun _ _ _ _ h => h) hHeld ?_ (Or.inl ⟨by rfl, ?_⟩) ?_
          rotate_left
          · intro W hW
            (try dsimp only at hW)
            first | (go_simp; done) | (go_simp; with_reducible rfl)
          ((try simp only [Act.put]); (try simp only [List.setIfInBounds_toArray]); (try simp only [List.set_cons_succ]); (try simp only [List.set_cons_zero]))
          refine takeL (i := 4) rfl (by kernel_rfl) (by kernel_rfl) (by kernel_rfl) (fun _ _ _ _ h => h) hHeld ?_ (Or.inl ⟨by rfl, ?_⟩) ?_
          rotate_left
          · intro W hW
            (try dsimp only at hW)
            first | (go_simp; done) | (go_simp; with_reducible rfl)
          ((try simp only [Act.put]); (try simp only [List.setIfInBounds_toArray]); (try simp only [List.set_cons_succ]); (try simp only [List.set_cons_zero]))
          refine takeL (i := 5) rfl (by kernel_rfl) (by kernel_rfl) (by kernel_rfl) (fun _ _ _ _ h => h) hHeld ?_ (Or.inl ⟨by rfl, ?_⟩) ?_
          rotate_left
          · intro W hW
            (try dsimp only at hW)
            first | (go_simp; done) | (go_simp; with_reducible rfl)
          ((try simp only [Act.put]); (try simp only [List.setIfInBounds_toArray]); (try simp only [List.set_cons_succ]); (try simp only [List.set_cons_zero]))
          refine takeL (i := 6) rfl (by kernel_rfl) (by kernel_rfl) (by kernel_rfl) (fun _ _ _ _ h => h) hHeld ?_ (Or.inl ⟨by rfl, ?_⟩) ?_
          rotate_left
          · intro W hW
            (try dsimp only at hW)
            first | (go_simp; done) | (go_simp; with_reducible rfl)
          ((try simp only [Act.put]); (try simp only [List.setIfInBounds_toArray]); (try simp only [List.set_cons_succ]); (try simp only [List.set_cons_zero]))
          refine takeL (i := 7) rfl (by kernel_rfl) (by kernel_rfl) (by kernel_rfl) (fun _ _ _ _ h => h) hHeld ?_ (Or.inl ⟨by rfl, ?_⟩) ?_
          rotate_left
          · intro W hW
            (try dsimp only at hW)
            first | (go_simp; done) | (go_simp; with_reducible rfl)
          ((try simp only [Act.put]); (try simp only [List.setIfInBounds_toArray]); (try simp only [List.set_cons_succ]); (try simp only [List.set_cons_zero]))
          refine takeL (i := 8) rfl (by kernel_rfl) (by kernel_rfl) (by kernel_rfl) (fun _ _ _ _ h => h) hHeld ?_ (Or.inl ⟨by rfl, ?_⟩) ?_
          rotate_left
          · intro W hW
            (try dsimp only at hW)
            first | (go_simp; done) | (go_simp; with_reducible rfl)
          ((try simp only [Act.put]); (try simp only [List.setIfInBounds_toArray]); (try simp only [List.set_cons_succ]); (try simp only [List.set_cons_zero]))
          refine takeL (i := 9) rfl (by kernel_rfl) (by kernel_rfl) (by kernel_rfl) (fun _ _ _ _ h => h) hHeld ?_ (Or.inl ⟨by rfl, ?_⟩) ?_
          rotate_left
          · intro W hW
            (try dsimp only at hW)
            first | (go_simp; done) | (go_simp; with_reducible rfl)
          ((try simp only [Act.put]); (try simp only [List.setIfInBounds_toArray]); (try simp only [List.set_cons_succ]); (try simp only [List.set_cons_zero]))
          refine takeL (i := 10) rfl (by kernel_rfl) (by kernel_rfl) (by kernel_rfl) (fun _ _ _ _ h => h) hHeld ?_ (Or.inl ⟨by rfl, ?_⟩) ?_
          rotate_left
          · intro W hW
            (try dsimp only at hW)
            first | (go_simp; done) | (go_simp; with_reducible rfl)
          ((try simp only [Act.put]); (try simp only [List.setIfInBounds_toArray]); (try simp only [List.set_cons_succ]); (try simp only [List.set_cons_zero]))
          refine takeL (i := 11) rfl (by kernel_rfl) (by kernel_rfl) (by kernel_rfl) (fun _ _ _ _ h => h) hHeld ?_ (Or.inl ⟨by rfl, ?_⟩) ?_
          rotate_left
          · intro W hW
            (try dsimp only at hW)
            first | (go_simp; done) | (go_simp; with_reducible rfl)
          ((try simp only [Act.put]); (try simp only [List.setIfInBounds_toArray]); (try simp only [List.set_cons_succ]); (try simp only [List.set_cons_zero]))
          refine takeL (i := 12) rfl (by kernel_rfl) (by kernel_rfl) (by kernel_rfl) (fun _ _ _ _ h => h) hHeld ?_ (Or.inl ⟨by rfl, ?_⟩) ?_
          rotate_left
          · intro W hW
            (try dsimp only at hW)
            first | (go_simp; done) | (go_simp; with_reducible rfl)
          ((try simp only [Act.put]); (try simp only [List.setIfInBounds_toArray]); (try simp only [List.set_cons_succ]); (try simp only [List.set_cons_zero]))
          refine takeL (i := 13) rfl (by kernel_rfl) (by kernel_rfl) (by kernel_rfl) (fun _ _ _ _ h => h) hHeld ?_ (Or.inl ⟨by rfl, ?_⟩) ?_
          rotate_left
          · intro W hW
            (try dsimp only at hW)
            first | (go_simp; done) | (go_simp; with_reducible rfl)
          ((try simp only [Act.put]); (try simp only [List.setIfInBounds_toArray]); (try simp only [List.set_cons_succ]); (try simp only [List.set_cons_zero]))
          refine takeL (i := 14) rfl (by kernel_rfl) (by kernel_rfl) (by kernel_rfl) (fun _ _ _ _ h => h) hHeld ?_ (Or.inl ⟨by rfl, ?_⟩) ?_
          rotate_left
          · intro W hW
            (try dsimp only at hW)
            first | (go_simp; done) | (go_simp; with_reducible rfl)
          ((try simp only [Act.put]); (try simp only [List.setIfInBounds_toArray]); (try simp only [List.set_cons_succ]); (try simp only [List.set_cons_zero]))
          refine takeL (i := 15) rfl (by kernel_rfl) (by kernel_rfl) (by kernel_rfl) (fun _ _ _ _ h => h) hHeld ?_ (Or.inl ⟨by rfl, ?_⟩) ?_
          rotate_left
          · intro W hW
            (try dsimp only at hW)
            first | (go_simp; done) | (go_simp; with_reducible rfl)
          ((try simp only [Act.put]); (try simp only [List.setIfInBounds_toArray]); (try simp only [List.set_cons_succ]); (try simp only [List.set_cons_zero]))
          refine callL2 (i := 3) (j := 16) rfl rfl (by kernel_rfl) (fun K hK => ?_) (fun K hK => ?_)
          · rw [if_pos (by rfl)]
            have q := (hc'.out _ _ _ H (.here _ _)).1
            go_simp
            clear q
            refine hK.out _ _ ?_ (fun hHeld => ?_)
            · trivial
            clear hK K
            ((try simp only [Act.put]); (try simp only [List.setIfInBounds_toArray]); (try simp only [List.set_cons_succ]); (try simp only [List.set_cons_zero]))
            refine callL (i := 16) rfl (by kernel_rfl) (fun K hK => ?_)
            rw [if_pos (by rfl)]
            go_simp
            have HB : SL (w5.alloc (.cells #[.int .i64 X', .int .i64 Y'] 29)) (gH B R :: .blk w5.heap.size (spCells (X', Y')) 29 :: gM C S0 :: L) := (H.alloc (spCells (X', Y')) 29).pull (.there (.here _ _))
            clear H hHeld
            have H := HB
            clear HB
            generalize w5.alloc (.cells #[.int .i64 X', .int .i64 Y'] 29) = w6 at *
            generalize w5.heap.size = g6 at *
            refine hK.out _ _ ?_ (fun hHeld => ?_)
            · trivial
            clear hK K
            ((try simp only [Act.put]); (try simp only [List.setIfInBounds_toArray]); (try simp only [List.set_cons_succ]); (try simp only [List.set_cons_zero]))
            refine callL (i := 17) rfl (by kernel_rfl) (fun K hK => ?_)
            rw [if_pos (by rfl)]
            obtain ⟨a2, c2, w7, hrun, hc1, hf1, hL7, -, R', hR', -, hst⟩ := hap'.out _ _ _ _ H
            refine Lib.wp_append_run _ _ _ _ _ rfl v0 (.slice (some ⟨g6, 0, none⟩) 1 1) rfl rfl _ _ hrun ?_
            clear H hHeld hrun
            have H := hL7
            have hst2 := Lib.hid hst
            clear hst hL7
            refine hK.out _ _ ?_ (fun hHeld => ?_)
            · trivial
            clear hK K
            ((try simp only [Act.put]); (try simp only [List.setIfInBounds_toArray]); (try simp only [List.set_cons_succ]); (try simp only [List.set_cons_zero]))
            refine takeL (i := 18) rfl (by kernel_rfl) (by kernel_rfl) (by kernel_rfl) (fun _ _ _ _ h => h) hHeld ?_ (Or.inl ⟨by rfl, ?_⟩) ?_
            rotate_left
            · intro W hW
              (try dsimp only at hW)
              first | (go_simp; done) | (go_simp; with_reducible rfl)
            ((try simp only [Act.put]); (try simp only [List.setIfInBounds_toArray]); (try simp only [List.set_cons_succ]); (try simp only [List.set_cons_zero]))
            refine callL (i := 19) rfl (by kernel_rfl) (fun K hK => ?_)
            rw [if_pos (by rfl)]
            go_simp
            clear H hHeld
            have H := hst2.out
            clear hst2
            refine hK.out _ _ ?_ (fun hHeld => ?_)
            · trivial
            clear hK K
            ((try simp only [Act.put]); (try simp only [List.setIfInBounds_toArray]); (try simp only [List.set_cons_succ]); (try simp only [List.set_cons_zero]))
            refine wpAnyH_done (by kernel_rfl) ?_ _
            have hR2 := Lib.hid hR'
            have hH := Lib.hid H
            clear H hHeld hR' hc1 hf1 hap' hc'
            go_wp2_with fail
            go_roundw
            case rel => exact ⟨i + 1, R', by omega, by go_num, Lib.hid ⟨by rw [heldRow_succ, hx.out]; exact hR2.out, hH.out⟩⟩
            case measure => (simp [intOf]; try omega)
          · rw [if_pos (by rfl)]
            go_simp
            have HB : SL (w5.alloc (.cells #[.int .i64 X', .int .i64 Y'] 29)) (gH B R :: .blk w5.heap.size (spCells (X', Y')) 29 :: gM C S0 :: L) := (H.alloc (spCells (X', Y')) 29).pull (.there (.here _ _))
            clear H hHeld
            have H := HB
            clear HB
            generalize w5.alloc (.cells #[.int .i64 X', .int .i64 Y'] 29) = w6 at *
            generalize w5.heap.size = g6 at *
            refine hK.out _ _ ?_ (fun hHeld => ?_)
            · trivial
            clear hK K
            ((try simp only [Act.put]); (try simp only [List.setIfInBounds_toArray]); (try simp only [List.set_cons_succ]); (try simp only [List.set_cons_zero]))
            refine callL (i := 3) rfl (by kernel_rfl) (fun K hK => ?_)
            rw [if_pos (by rfl)]
            have q := (hc'.out _ _ _ H (.here _ _)).1
            go_simp
            clear q
            refine hK.out _ _ ?_ (fun hHeld => ?_)
            · trivial
            clear hK K
            ((try simp only [Act.put]); (try simp only [List.setIfInBounds_toArray]); (try simp only [List.set_cons_succ]); (try simp only [List.set_cons_zero]))
            refine callL (i := 17) rfl (by kernel_rfl) (fun K hK => ?_)
            rw [if_pos (by rfl)]
            obtain ⟨a2, c2, w7, hrun, hc1, hf1, hL7, -, R', hR', -, hst⟩ := hap'.out _ _ _ _ H
            refine Lib.wp_append_run _ _ _ _ _ rfl v0 (.slice (some ⟨g6, 0, none⟩) 1 1) rfl rfl _ _ hrun ?_
            clear H hHeld hrun
            have H := hL7
            have hst2 := Lib.hid hst
            clear hst hL7
            refine hK.out _ _ ?_ (fun hHeld => ?_)
            · trivial
            clear hK K
            ((try simp only [Act.put]); (try simp only [List.setIfInBounds_toArray]); (try simp only [List.set_cons_succ]); (try simp only [List.set_cons_zero]))
            refine takeL (i := 18) rfl (by kernel_rfl) (by kernel_rfl) (by kernel_rfl) (fun _ _ _ _ h => h) hHeld ?_ (Or.inl ⟨by rfl, ?_⟩) ?_
            rotate_left
            · intro W hW
              (try dsimp only at hW)
              first | (go_simp; done) | (go_simp; with_reducible rfl)
            ((try simp only [Act.put]); (try simp only [List.setIfInBounds_toArray]); (try simp only [List.set_cons_succ]); (try simp only [List.set_cons_zero]))
            refine callL (i := 19) rfl (by kernel_rfl) (fun K hK => ?_)
            rw [if_pos (by rfl)]
            go_simp
            clear H hHeld
            have H := hst2.out
            clear hst2
            refine hK.out _ _ ?_ (fun hHeld => ?_)
            · trivial
            clear hK K
            ((try simp only [Act.put]); (try simp only [List.setIfInBounds_toArray]); (try simp only [List.set_cons_succ]); (try simp only [List.set_cons_zero]))
            refine wpAnyH_done (by kernel_rfl) ?_ _
            have hR2 := Lib.hid hR'
            have hH := Lib.hid H
            clear H hHeld hR' hc1 hf1 hap' hc'
            go_wp2_with fail
            go_roundw
            case rel => exact ⟨i + 1, R', by omega, by go_num, Lib.hid ⟨by rw [heldRow_succ, hx.out]; exact hR2.out, hH.out⟩⟩
            case measure => (simp [intOf]; try omega)
        · obtain rfl : p = i := by omega
          have hR1 : Hid (R.map (·.2) = wholeX (fun k => heldRow 2 p s k p) 2) := Lib.hid (by rw [hh.out.1, stage_next (fun j => heldRow 2 p s j p) 2 1, stage_all _ (by omega)])
          have hH := Lib.hid hh.out.2
          clear hh hip hi
          go_wp2_with fail

          have hRl : 1 < R.length := by have := congrArg List.length hR1.out; rw [List.length_map] at this; rw [this]; simp [wholeX]
          go_loopw [13] (fun i wr => ∃ (i0 : Nat) (S : List (Value × List Mv)), i0 ≤ p ∧ i = .int .i64 (i0 : Int) ∧ Hid (S.map (·.2) = stage (movesOf 2 p s) 1 0 (pre 2 p s 0 i0) ∧ SL wr (gH B R :: gM C S :: L))) (fun i _ => p - (intOf i).toNat)
          case atStart => exact ⟨0, _, by omega, rfl, Lib.hid ⟨hS0.out, hH.out⟩⟩
          case round =>
            clear hH hS0
            obtain ⟨i, S, hi, rfl, hh⟩ := hrel
            by_cases hip : i < p
            · have hS1 : Hid (S.map (·.2) = stage (movesOf 2 p s) 1 0 (pre 2 p s 0 i ++ inner 2 p s 0 i 0 0)) := Lib.hid (by rw [show inner 2 p s 0 i 0 0 = [] from rfl, List.append_nil]; exact hh.out.1)
              have hH := Lib.hid hh.out.2
              clear hh
              have hpl : (pre 2 p s 0 i).length ≤ 4096 := by
                have := pre_len 2 p s 0 i h1
                have : i * p ≤ 64 * 64 := Nat.mul_le_mul (by omega) h2
                omega
              go_wp2_with fail
              go_loopw [14] (fun j wr => ∃ (j0 : Nat) (S : List (Value × List Mv)), j0 ≤ p ∧ j = .int .i64 (j0 : Int) ∧ Hid (S.map (·.2) = stage (movesOf 2 p s) 1 0 (pre 2 p s 0 i ++ inner 2 p s 0 i 0 j0) ∧ SL wr (gH B R :: gM C S :: L))) (fun j _ => p - (intOf j).toNat)
              case atStart => exact ⟨0, _, by omega, rfl, Lib.hid ⟨hS1.out, hH.out⟩⟩
              case round =>
                clear hH hS1
                obtain ⟨j, S, hj, rfl, hh⟩ := hrel
                by_cases hjp : j < p
                · by_cases hij : i = j
                  · subst hij
                    go_wp2_with fail
                    go_roundw
                    case rel => exact ⟨i + 1, S, by omega, by go_num, Lib.hid ⟨by rw [inner_succ, if_pos (by omega), List.append_nil]; exact hh.out.1, hh.out.2⟩⟩
                    case measure => (simp [intOf]; try omega)
                  · obtain ⟨v0, hc, hap⟩ := g_app elemMv (f := mvCells) (fun _ => rfl) mv_cells1 (by decide) (ty := 24) (B := C) hh.out.1 (show 0 < 1 by omega) (by rw [List.length_append]; have := inner_len 2 p s 0 i 0 j; omega)
                    generalize (pre 2 p s 0 i ++ inner 2 p s 0 i 0 j).length = nl at hap
                    have hc' := Lib.hid hc
                    have hap' := Lib.hid hap
                    have hH := Lib.hid (hh.out.2.pull (.there (.here _ _)))
                    have hsx := Lib.hid (inner_succ 2 p s 0 i 0 j)
                    obtain ⟨hb, hcp, hhc, hrf⟩ := row_facts hh.out.2 (.here _ _) (k := 1) (l := heldRow 2 p s 1 p) hRl ((row_is hR1.out hRl (by simp [wholeX])).trans (wholeX_at _ (by omega))) (heldRow_len _ _ _ _ _) (by omega)
                    obtain ⟨X', Y', hXY⟩ : ∃ X' Y', heldOf 2 p s j 1 = (X', Y') := ⟨_, _, rfl⟩
                    have hf : Hid (∀ W M M', SL W M → Pull M (gH B R) M' → W.cell? ⟨B, 1, none⟩ = some (.slice (some ⟨hb, 0, none⟩) p hcp) ∧ W.cell? ⟨hb, j * 2, none⟩ = some (.int .i64 X') ∧ W.cell? ⟨hb, j * 2 + 1, none⟩ = some (.int .i64 Y')) := Lib.hid fun W M M' h hp => by
                      obtain ⟨x1, x2⟩ := hrf W M M' h hp
                      obtain ⟨x3, x4⟩ := x2 j (by rw [heldRow_len]; exact hjp)
                      rw [heldRow_at _ _ _ _ hjp, hXY] at x3 x4
                      exact ⟨x1, x3, x4⟩
                    have hmk : Hid (mkMv 2 p s 0 i j = ⟨0, i, j, X', Y'⟩) := Lib.hid (by
                      have : mvSpan 2 p s 0 j = heldOf 2 p s j 1 := rfl
                      simp [mkMv, this, hXY])
                    clear hc hap hh hrf hXY
                    go_wp2_with fail
                    refine wp_region_held_drew (S := (fun W => W.cell? ⟨B, 1, none⟩ = some (.slice (some ⟨hb, 0, none⟩) p hcp) ∧ W.cell? ⟨hb, j * 2, none⟩ = some (.int .i64 X') ∧ W.cell? ⟨hb, j * 2 + 1, none⟩ = some (.int .i64 Y'))) (by kernel_rfl) ?_ (fun hHeld => ?_)
                    · have H := hH.out.drew
                      first | exact hf.out _ _ _ H (.here _ _) | exact hf.out _ _ _ H (.there (.here _ _)) | exact hf.out _ _ _ H (.there (.there (.here _ _)))
                    have H := hH.out.drew
                    generalize World.drew wr = w5 at *
                    clear hH
                    refine takeL (i := 0) rfl (by kernel_rfl) (by kernel_rfl) (by kernel_rfl) (fun _ _ _ _ h => h) hHeld ?_ (Or.inl ⟨by rfl, ?_⟩) ?_
                    rotate_left
                    · intro W hW
                      (try dsimp only at hW)
                      first | (go_simp; done) | (go_simp; with_reducible rfl)
                    ((try simp only [Act.put]); (try simp only [List.setIfInBounds_toArray]); (try simp only [List.set_cons_succ]); (try simp only [List.set_cons_zero]))
                    refine takeL (i := 1) rfl (by kernel_rfl) (by kernel_rfl) (by kernel_rfl) (fun _ _ _ _ h => h) hHeld ?_ (Or.inl ⟨by rfl, ?_⟩) ?_
                    rotate_left
                    · intro W hW
                      (try dsimp only at hW)
                      first | (go_simp; done) | (go_simp; with_reducible rfl)
                    ((try simp only [Act.put]); (try simp only [List.setIfInBounds_toArray]); (try simp only [List.set_cons_succ]); (try simp only [List.set_cons_zero]))
                    refine takeL (i := 2) rfl (by kernel_rfl) (by kernel_rfl) (by kernel_rfl) (fun _ _ _ _ h => h) hHeld ?_ (Or.inl ⟨by rfl, ?_⟩) ?_
                    rotate_left
                    · intro W hW
                      (try dsimp only at hW)
                      first | (go_simp; done) | (go_simp; with_reducible rfl)
                    ((try simp only [Act.put]); (try simp only [List.setIfInBounds_toArray]); (try simp only [List.set_cons_succ]); (try simp only [List.set_cons_zero]))
                    refine takeL (i := 4) rfl (by kernel_rfl) (by kernel_rfl) (by kernel_rfl) (fun _ _ _ _ h => h) hHeld ?_ (Or.inl ⟨by rfl, ?_⟩) ?_
                    rotate_left
                    · intro W hW
                      (try dsimp only at hW)
                      first | (go_simp; done) | (go_simp; with_reducible rfl)
                    ((try simp only [Act.put]); (try simp only [List.setIfInBounds_toArray]); (try simp only [List.set_cons_succ]); (try simp only [List.set_cons_zero]))
                    refine takeL (i := 5) rfl (by kernel_rfl) (by kernel_rfl) (by kernel_rfl) (fun _ _ _ _ h => h) hHeld ?_ (Or.inl ⟨by rfl, ?_⟩) ?_
                    rotate_left
                    · intro W hW
                      (try dsimp only at hW)
                      first | (go_simp; done) | (go_simp; with_reducible rfl)
                    ((try simp only [Act.put]); (try simp only [List.setIfInBounds_toArray]); (try simp only [List.set_cons_succ]); (try simp only [List.set_cons_zero]))
                    refine takeL (i := 6) rfl (by kernel_rfl) (by kernel_rfl) (by kernel_rfl) (fun _ _ _ _ h => h) hHeld ?_ (Or.inl ⟨by rfl, ?_⟩) ?_
                    rotate_left
                    · intro W hW
                      (try dsimp only at hW)
                      first | (go_simp; done) | (go_simp; with_reducible rfl)
                    ((try simp only [Act.put]); (try simp only [List.setIfInBounds_toArray]); (try simp only [List.set_cons_succ]); (try simp only [List.set_cons_zero]))
                    refine takeL (i := 7) rfl (by kernel_rfl) (by kernel_rfl) (by kernel_rfl) (fun _ _ _ _ h => h) hHeld ?_ (Or.inl ⟨by rfl, ?_⟩) ?_
                    rotate_left
                    · intro W hW
                      (try dsimp only at hW)
                      first | (go_simp; done) | (go_simp; with_reducible rfl)
                    ((try simp only [Act.put]); (try simp only [List.setIfInBounds_toArray]); (try simp only [List.set_cons_succ]); (try simp only [List.set_cons_zero]))
                    refine takeL (i := 8) rfl (by kernel_rfl) (by kernel_rfl) (by kernel_rfl) (fun _ _ _ _ h => h) hHeld ?_ (Or.inl ⟨by rfl, ?_⟩) ?_
                    rotate_left
                    · intro W hW
                      (try dsimp only at hW)
                      first | (go_simp; done) | (go_simp; with_reducible rfl)
                    ((try simp only [Act.put]); (try simp only [List.setIfInBounds_toArray]); (try simp only [List.set_cons_succ]); (try simp only [List.set_cons_zero]))
                    refine takeL (i := 9) rfl (by kernel_rfl) (by kernel_rfl) (by kernel_rfl) (fun _ _ _ _ h => h) hHeld ?_ (Or.inl ⟨by rfl, ?_⟩) ?_
                    rotate_left
                    · intro W hW
                      (try dsimp only at hW)
                      first | (go_simp; done) | (go_simp; with_reducible rfl)
                    ((try simp only [Act.put]); (try simp only [List.setIfInBounds_toArray]); (try simp only [List.set_cons_succ]); (try simp only [List.set_cons_zero]))
                    refine takeL (i := 10) rfl (by kernel_rfl) (by kernel_rfl) (by kernel_rfl) (fun _ _ _ _ h => h) hHeld ?_ (Or.inl ⟨by rfl, ?_⟩) ?_
                    rotate_left
                    · intro W hW
                      (try dsimp only at hW)
                      first | (go_simp; done) | (go_simp; with_reducible rfl)
                    ((try simp only [Act.put]); (try simp only [List.setIfInBounds_toArray]); (try simp only [List.set_cons_succ]); (try simp only [List.set_cons_zero]))
                    refine takeL (i := 11) rfl (by kernel_rfl) (by kernel_rfl) (by kernel_rfl) (fun _ _ _ _ h => h) hHeld ?_ (Or.inl ⟨by rfl, ?_⟩) ?_
                    rotate_left
                    · intro W hW
                      (try dsimp only at hW)
                      first | (go_simp; done) | (go_simp; with_reducible rfl)
                    ((try simp only [Act.put]); (try simp only [List.setIfInBounds_toArray]); (try simp only [List.set_cons_succ]); (try simp only [List.set_cons_zero]))
                    refine takeL (i := 12) rfl (by kernel_rfl) (by kernel_rfl) (by kernel_rfl) (fun _ _ _ _ h => h) hHeld ?_ (Or.inl ⟨by rfl, ?_⟩) ?_
                    rotate_left
                    · intro W hW
                      (try dsimp only at hW)
                      first | (go_simp; done) | (go_simp; with_reducible rfl)
                    ((try simp only [Act.put]); (try simp only [List.setIfInBounds_toArray]); (try simp only [List.set_cons_succ]); (try simp only [List.set_cons_zero]))
                    refine callL2 (i := 3) (j := 13) rfl rfl (by kernel_rfl) (fun K hK => ?_) (fun K hK => ?_)
                    · rw [if_pos (by rfl)]
                      have q := (hc'.out _ _ _ H (.here _ _)).1
                      go_simp
                      clear q
                      refine hK.out _ _ ?_ (fun hHeld => ?_)
                      · first | exact hf.out _ _ _ H (.here _ _) | exact hf.out _ _ _ H (.there (.here _ _)) | exact hf.out _ _ _ H (.there (.there (.here _ _)))
                      clear hK K
                      ((try simp only [Act.put]); (try simp only [List.setIfInBounds_toArray]); (try simp only [List.set_cons_succ]); (try simp only [List.set_cons_zero]))
                      refine callL (i := 13) rfl (by kernel_rfl) (fun K hK => ?_)
                      rw [if_pos (by rfl)]
                      go_simp
                      have HB : SL (w5.alloc (.cells #[.int .i64 0, .int .i64 i, .int .i64 j, .int .i64 X', .int .i64 Y'] 31)) (gM C S :: .blk w5.heap.size (mvCells ⟨0, i, j, X', Y'⟩) 31 :: gH B R :: L) := (H.alloc (mvCells ⟨0, i, j, X', Y'⟩) 31).pull (.there (.here _ _))
                      clear H hHeld
                      have H := HB
                      clear HB
                      generalize w5.alloc (.cells #[.int .i64 0, .int .i64 i, .int .i64 j, .int .i64 X', .int .i64 Y'] 31) = w6 at *
                      generalize w5.heap.size = g6 at *
                      refine hK.out _ _ ?_ (fun hHeld => ?_)
                      · first | exact hf.out _ _ _ H (.here _ _) | exact hf.out _ _ _ H (.there (.here _ _)) | exact hf.out _ _ _ H (.there (.there (.here _ _)))
                      clear hK K
                      ((try simp only [Act.put]); (try simp only [List.setIfInBounds_toArray]); (try simp only [List.set_cons_succ]); (try simp only [List.set_cons_zero]))
                      refine callL (i := 14) rfl (by kernel_rfl) (fun K hK => ?_)
                      rw [if_pos (by rfl)]
                      obtain ⟨a2, c2, w7, hrun, hc1, hf1, hL7, -, R', hR', -, hst⟩ := hap'.out _ _ _ _ H
                      refine Lib.wp_append_run _ _ _ _ _ rfl v0 (.slice (some ⟨g6, 0, none⟩) 1 1) rfl rfl _ _ hrun ?_
                      clear H hHeld hrun
                      have H := hL7
                      have hst2 := Lib.hid hst
                      clear hst hL7
                      refine hK.out _ _ ?_ (fun hHeld => ?_)
                      · first | exact hf.out _ _ _ H (.here _ _) | exact hf.out _ _ _ H (.there (.here _ _)) | exact hf.out _ _ _ H (.there (.there (.here _ _)))
                      clear hK K
                      ((try simp only [Act.put]); (try simp only [List.setIfInBounds_toArray]); (try simp only [List.set_cons_succ]); (try simp only [List.set_cons_zero]))
                      refine takeL (i := 15) rfl (by kernel_rfl) (by kernel_rfl) (by kernel_rfl) (fun _ _ _ _ h => h) hHeld ?_ (Or.inl ⟨by rfl, ?_⟩) ?_
                      rotate_left
                      · intro W hW
                        (try dsimp only at hW)
                        first | (go_simp; done) | (go_simp; with_reducible rfl)
                      ((try simp only [Act.put]); (try simp only [List.setIfInBounds_toArray]); (try simp only [List.set_cons_succ]); (try simp only [List.set_cons_zero]))
                      refine callL (i := 16) rfl (by kernel_rfl) (fun K hK => ?_)
                      rw [if_pos (by rfl)]
                      go_simp
                      clear H hHeld
                      have H := hst2.out
                      clear hst2
                      refine hK.out _ _ ?_ (fun hHeld => ?_)
                      · first | exact hf.out _ _ _ H (.here _ _) | exact hf.out _ _ _ H (.there (.here _ _)) | exact hf.out _ _ _ H (.there (.there (.here _ _)))
                      clear hK K
                      ((try simp only [Act.put]); (try simp only [List.setIfInBounds_toArray]); (try simp only [List.set_cons_succ]); (try simp only [List.set_cons_zero]))
                      refine wpAnyH_done (by kernel_rfl) ?_ _
                      have hR2 := Lib.hid hR'
                      have hH := Lib.hid H
                      clear H hHeld hR' hc1 hf1 hap' hc'
                      go_wp2_with fail
                      go_roundw
                      case rel => exact ⟨j + 1, R', by omega, by go_num, Lib.hid ⟨by rw [hsx.out, Nat.zero_add, if_neg (fun e => hij e.symm), hmk.out, ← List.append_assoc]; exact hR2.out, hH.out.pull (.there (.here _ _))⟩⟩
                      case measure => (simp [intOf]; try omega)
                    · rw [if_pos (by rfl)]
                      go_simp
                      have HB : SL (w5.alloc (.cells #[.int .i64 0, .int .i64 i, .int .i64 j, .int .i64 X', .int .i64 Y'] 31)) (gM C S :: .blk w5.heap.size (mvCells ⟨0, i, j, X', Y'⟩) 31 :: gH B R :: L) := (H.alloc (mvCells ⟨0, i, j, X', Y'⟩) 31).pull (.there (.here _ _))
                      clear H hHeld
                      have H := HB
                      clear HB
                      generalize w5.alloc (.cells #[.int .i64 0, .int .i64 i, .int .i64 j, .int .i64 X', .int .i64 Y'] 31) = w6 at *
                      generalize w5.heap.size = g6 at *
                      refine hK.out _ _ ?_ (fun hHeld => ?_)
                      · first | exact hf.out _ _ _ H (.here _ _) | exact hf.out _ _ _ H (.there (.here _ _)) | exact hf.out _ _ _ H (.there (.there (.here _ _)))
                      clear hK K
                      ((try simp only [Act.put]); (try simp only [List.setIfInBounds_toArray]); (try simp only [List.set_cons_succ]); (try simp only [List.set_cons_zero]))
                      refine callL (i := 3) rfl (by kernel_rfl) (fun K hK => ?_)
                      rw [if_pos (by rfl)]
                      have q := (hc'.out _ _ _ H (.here _ _)).1
                      go_simp
                      clear q
                      refine hK.out _ _ ?_ (fun hHeld => ?_)
                      · first | exact hf.out _ _ _ H (.here _ _) | exact hf.out _ _ _ H (.there (.here _ _)) | exact hf.out _ _ _ H (.there (.there (.here _ _)))
                      clear hK K
                      ((try simp only [Act.put]); (try simp only [List.setIfInBounds_toArray]); (try simp only [List.set_cons_succ]); (try simp only [List.set_cons_zero]))
                      refine callL (i := 14) rfl (by kernel_rfl) (fun K hK => ?_)
                      rw [if_pos (by rfl)]
                      obtain ⟨a2, c2, w7, hrun, hc1, hf1, hL7, -, R', hR', -, hst⟩ := hap'.out _ _ _ _ H
                      refine Lib.wp_append_run _ _ _ _ _ rfl v0 (.slice (some ⟨g6, 0, none⟩) 1 1) rfl rfl _ _ hrun ?_
                      clear H hHeld hrun
                      have H := hL7
                      have hst2 := Lib.hid hst
                      clear hst hL7
                      refine hK.out _ _ ?_ (fun hHeld => ?_)
                      · first | exact hf.out _ _ _ H (.here _ _) | exact hf.out _ _ _ H (.there (.here _ _)) | exact hf.out _ _ _ H (.there (.there (.here _ _)))
                      clear hK K
                      ((try simp only [Act.put]); (try simp only [List.setIfInBounds_toArray]); (try simp only [List.set_cons_succ]); (try simp only [List.set_cons_zero]))
                      refine takeL (i := 15) rfl (by kernel_rfl) (by kernel_rfl) (by kernel_rfl) (fun _ _ _ _ h => h) hHeld ?_ (Or.inl ⟨by rfl, ?_⟩) ?_
                      rotate_left
                      · intro W hW
                        (try dsimp only at hW)
                        first | (go_simp; done) | (go_simp; with_reducible rfl)
                      ((try simp only [Act.put]); (try simp only [List.setIfInBounds_toArray]); (try simp only [List.set_cons_succ]); (try simp only [List.set_cons_zero]))
                      refine callL (i := 16) rfl (by kernel_rfl) (fun K hK => ?_)
                      rw [if_pos (by rfl)]
                      go_simp
                      clear H hHeld
                      have H := hst2.out
                      clear hst2
                      refine hK.out _ _ ?_ (fun hHeld => ?_)
                      · first | exact hf.out _ _ _ H (.here _ _) | exact hf.out _ _ _ H (.there (.here _ _)) | exact hf.out _ _ _ H (.there (.there (.here _ _)))
                      clear hK K
                      ((try simp only [Act.put]); (try simp only [List.setIfInBounds_toArray]); (try simp only [List.set_cons_succ]); (try simp only [List.set_cons_zero]))
                      refine wpAnyH_done (by kernel_rfl) ?_ _
                      have hR2 := Lib.hid hR'
                      have hH := Lib.hid H
                      clear H hHeld hR' hc1 hf1 hap' hc'
                      go_wp2_with fail
                      go_roundw
                      case rel => exact ⟨j + 1, R', by omega, by go_num, Lib.hid ⟨by rw [hsx.out, Nat.zero_add, if_neg (fun e => hij e.symm), hmk.out, ← List.append_assoc]; exact hR2.out, hH.out.pull (.there (.here _ _))⟩⟩
                      case measure => (simp [intOf]; try omega)
                · obtain rfl : p = j := by omega
                  go_wp2_with fail
                  go_roundw
                  case rel => exact ⟨i + 1, S, by omega, by go_num, Lib.hid ⟨by rw [pre_succ, show mvFrom 2 p s 0 i = inner 2 p s 0 i 0 p from rfl]; exact hh.out.1, hh.out.2⟩⟩
                  case measure => (simp [intOf]; try omega)
            · obtain rfl : p = i := by omega
              go_wp2_with fail
              go_ret2
              refine ⟨B, C, R, S, rfl, hR1.out, ?_, hh.out.2⟩
              rw [hh.out.1, show pre 2 p s 0 p = movesOf 2 p s 0 from rfl, stage_next (movesOf 2 p s) 1 0, stage_all _ (by omega)]
end Go.Proofs.Ytamhlmfcnnomgaa
