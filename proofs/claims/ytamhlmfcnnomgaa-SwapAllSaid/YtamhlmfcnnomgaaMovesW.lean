/- The walk of the iterator over the moves of a round. -/
import Derived.Test.YtamhlmfcnnomgaaHeldX
import Derived.Test.YtamhlmfcnnomgaaMoves
import Derived.Test.YtamhlmfcnnomgaaRange2
import Derived.TacticsIn
import Derived.Shelf.RegionOpen
namespace Go.Proofs.Ytamhlmfcnnomgaa
open Go.RowKit Go.Shelf
set_option linter.unusedVariables false

theorem plan_agg {w : World} {b mode p s : Nat} (h : w.heap[b]? = some (.cells #[.int .i64 mode, .int .i64 p, .int .i64 s] 65)) :
    w.cell? ⟨b, 0, none⟩ = some (.int .i64 mode) ∧ w.cell? ⟨b, 1, none⟩ = some (.int .i64 p) ∧ w.cell? ⟨b, 2, none⟩ = some (.int .i64 s) := three_blk h

/-- What the iterator reads. -/
def Plan (b1 b2 mode p s r : Nat) (w : World) : Prop :=
  w.heap[b1]? = some (.cells #[.int .i64 mode, .int .i64 p, .int .i64 s] 65) ∧ w.heap[b2]? = some (.cells #[.int .i64 r] 3)
theorem Plan.kept {b1 b2 mode p s r : Nat} {S : Nat → Prop} {w w' : World} (h : Plan b1 b2 mode p s r w) (hk : Kp S w w') (h1 : ¬ S b1) (h2 : ¬ S b2) : Plan b1 b2 mode p s r w' :=
  ⟨hk.at h.1 h1, hk.at h.2 h2⟩
theorem Plan.no {b1 b2 mode p s r : Nat} {w w' : World} (h : Plan b1 b2 mode p s r w) (hk : Kp no w w') : Plan b1 b2 mode p s r w' := h.kept hk (fun h => h) (fun h => h)
theorem Plan.cells {b1 b2 mode p s r : Nat} {w : World} (h : Plan b1 b2 mode p s r w) :
    w.cell? ⟨b1, 0, none⟩ = some (.int .i64 mode) ∧ w.cell? ⟨b1, 1, none⟩ = some (.int .i64 p) ∧ w.cell? ⟨b1, 2, none⟩ = some (.int .i64 s) ∧ w.cell? ⟨b2, 0, none⟩ = some (.int .i64 r) := by
  obtain ⟨a, b, c⟩ := plan_agg h.1
  exact ⟨a, b, c, blk_cell h.2 0 _ rfl⟩

set_option maxRecDepth 100000 in
set_option maxHeartbeats 4000000 in
theorem moves_direct (p s r b1 b2 : Nat) (h1 : 1 ≤ p) (h2 : p ≤ 64) (h3 : s ≤ 4096) (h4 : r = 0) :
    Gives Try.prog 38 #[.pointer (some ⟨b1, 0, none⟩), .pointer (some ⟨b2, 0, none⟩)] ((movesOf 2 p s r).map fun m => #[moveV m]) no (Plan b1 b2 2 p s r) (fun _ => True) := by
  subst h4
  rintro y J Z W hJ hZ hH hY - h0
  refine callsIn_of_wp Try.func38 rfl trivial ?_ rfl
  simp only [Try.ntmps38, List.size_toArray, List.length_cons, List.length_nil, Nat.reduceAdd, Nat.reduceSub, Array.replicate_succ, Array.replicate_zero, List.push_toArray, List.append_toArray, List.nil_append, List.cons_append]
  have hP0 := hH 0 W h0
  obtain ⟨c0, c1, c2, c3⟩ := hP0.cells
  have hY' := Lib.hid hY
  have hJ' := Lib.hid hJ
  have hH' := Lib.hid hH
  have hZ' := Lib.hid hZ
  have hmx : Try.prog.follows .mixedOrders = true := by kernel_rfl
  clear hY hJ hH hZ hP0
  refine scope_in ?_
  gi_wp2_with (refine wpIn_label ?_)
  gi_loopw [11] (fun i wr => ∃ k : Nat, k ≤ p ∧ i = .int .i64 k ∧ J (pre 2 p s 0 k).length wr) (fun i wr => p - (intOf i).toNat)
  case atStart => exact ⟨0, by omega, rfl, by simpa [pre] using h0⟩
  case round =>
    clear c0 c1 c2 c3
    obtain ⟨k, hk, rfl, hJk⟩ := hrel
    have hP := hH'.out _ _ hJk
    obtain ⟨c0, c1, c2, c3⟩ := hP.cells
    have hJk' := Lib.hid hJk
    clear hP hJk
    by_cases hkp : k < p
    · have hw : Hid (ways 2 p 0 k = some (0, p)) := Lib.hid (by simp [ways])
      gi_wp2_with (first | refine wpIn_label ?_ | refine scope_in ?_)
      gi_region_with_o (fail)
      gi_wp2_with (first | refine wpIn_label ?_ | refine scope_in ?_)
      have c0' : wr.drew.cell? ⟨b1, 0, none⟩ = some (.int .i64 2) := c0
      obtain ⟨wo, hwo⟩ : ∃ wo : World, wo = wr := ⟨_, rfl⟩
      have hwo' := Lib.hid hwo
      clear hwo
      gi_loopw [7] (fun i V => ∃ j : Nat, j ≤ p ∧ i = .int .i64 (j : Int) ∧ J (pre 2 p s 0 k ++ inner 2 p s 0 k 0 j).length V) (fun i _ => (p + 0) - (intOf i).toNat)
      case atStart => exact ⟨0, by omega, rfl, by simpa [inner] using hJ'.out _ _ _ hJk'.out (Kp.refl no _).drew⟩
      case round =>
        clear c0 c1 c2 c3
        obtain ⟨j, hj, rfl, hJj⟩ := hrel
        have hP := hH'.out _ _ hJj
        obtain ⟨c0, c1, c2, c3⟩ := hP.cells
        have hJj' := Lib.hid hJj
        clear hJj
        by_cases hjm : j < p
        · by_cases hself : j = k
          · skip
            have hsb : ((j : Int) == (k : Int)) = true := by simp; omega
            have hin := Lib.hid (inner_succ 2 p s 0 k 0 j)
            have hself' := Lib.hid hself
            clear hself hP
            gi_wp2
            go_roundw
            case rel =>
              refine ⟨j + 1, by omega, by go_num, ?_⟩
              rw [hin.out, if_pos (by have := hself'.out; omega), List.append_nil]
              exact hJj'.out
            case measure => (simp [intOf]; try omega)
          · have hsb : ((j : Int) == (k : Int)) = false := by simp; omega
            have HM := Lib.hid (moves_at 2 p s 0 k 0 p j hkp hw.out hjm (by omega))
            have hin := Lib.hid (inner_succ 2 p s 0 k 0 j)
            have hto : j < p := by omega
            have hheld := Lib.hid (fun w => held_c 2 p s j 1 w (by omega) h1 h2 h3 (by omega) (by omega))
            have hsp : Hid (mvSpan 2 p s 0 (0 + j) = heldOf 2 p s j 1) := Lib.hid (by rw [Nat.zero_add]; rfl)
            have hself' := Lib.hid hself
            clear hself
            generalize hhe : heldOf 2 p s j 1 = x at hheld hsp
            obtain ⟨ha, hb⟩ := x
            clear hhe
            have hP' := Lib.hid hP
            clear hP
            gi_wp2_with fail
            refine ⟨trivial, rfl, calls_in ((hheld.out _).mono ?_)⟩
            rintro e w1 ⟨rfl, hk1⟩
            unfold span
            have hJ3 := hJ'.out _ _ _ hJj'.out (hk1.alloc (.cells #[.int .i64 ha, .int .i64 hb] 29))
            have hP1 := hP'.out.no hk1
            clear c0 c1 c2 c3
            obtain ⟨c0, c1, c2, c3⟩ := hP1.cells
            have g1 := blk_lt hP1.1
            have g2 := blk_lt hP1.2
            obtain ⟨hl, hx⟩ := HM.out
            obtain ⟨fn, tmps, assign, body, hy, hR⟩ := hY'.out _ (by simpa using hl) _ hJ3
            rw [List.getElem_map, hx, show moveV (mkMv 2 p s 0 k (0 + j)) = .agg #[.int .i64 0, .int .i64 k, .int .i64 j, .int .i64 ha, .int .i64 hb] by unfold mkMv; rw [hsp.out]; simp [moveV]] at hy
            clear hl hx
            have hR' := Lib.hid hR
            have hP1' := Lib.hid hP1
            clear hR hP1 hk1
            gi_wp2_with fail
            refine ⟨rfl, hR'.out.mono ?_⟩
            rintro e w3 (⟨rfl, hJ4, -⟩ | ⟨rfl, hZ4⟩)
            · have hP4 := hH'.out _ _ hJ4
              clear c0 c1 c2 c3
              obtain ⟨c0, c1, c2, c3⟩ := hP4.cells
              have hJ4' := Lib.hid hJ4
              clear hJ4 hP4
              gi_wp2_with fail
              go_roundw
              case rel =>
                refine ⟨j + 1, by omega, by go_num, ?_⟩
                rw [hin.out, if_neg (by have := hself'.out; omega), ← List.append_assoc, List.length_append]
                exact hJ4'.out
              case measure => (simp [intOf]; try omega)
            · have hZ4' := Lib.hid hZ4
              clear hZ4
              gi_wp2_with fail
              repeat (first | rw [Exit.noGoto_ret] | gi_step)
              refine bodyPost_ret (results_none rfl _ _ _) rfl ?_
              exact ⟨⟨_, rfl⟩, .inr hZ4'.out⟩
        · obtain rfl : j = p := by omega
          clear hP
          gi_wp2
          simp only [Exit.noGoto_normal]
          gi_wp2
          go_roundw
          case rel =>
            refine ⟨k + 1, by omega, by go_num, ?_⟩
            rw [pre_succ, mvFrom, hw.out]
            exact hJj'.out
          case measure => (simp [intOf]; try omega)
    · obtain rfl : k = p := by omega
      gi_wp2
      repeat (first | rw [Exit.noGoto_ret] | rw [Exit.noGoto_normal] | gi_step)
      go_end0
      exact ⟨⟨_, rfl⟩, .inl (by simpa [movesOf] using hJk'.out)⟩

set_option maxRecDepth 100000 in
set_option maxHeartbeats 4000000 in
theorem moves_first (p s r b1 b2 : Nat) (h1 : 1 ≤ p) (h2 : p ≤ 64) (h3 : s ≤ 4096) (h4 : r = 0) :
    Gives Try.prog 38 #[.pointer (some ⟨b1, 0, none⟩), .pointer (some ⟨b2, 0, none⟩)] ((movesOf 1 p s r).map fun m => #[moveV m]) no (Plan b1 b2 1 p s r) (fun _ => True) := by
  subst h4
  rintro y J Z W hJ hZ hH hY - h0
  refine callsIn_of_wp Try.func38 rfl trivial ?_ rfl
  simp only [Try.ntmps38, List.size_toArray, List.length_cons, List.length_nil, Nat.reduceAdd, Nat.reduceSub, Array.replicate_succ, Array.replicate_zero, List.push_toArray, List.append_toArray, List.nil_append, List.cons_append]
  have hP0 := hH 0 W h0
  obtain ⟨c0, c1, c2, c3⟩ := hP0.cells
  have hY' := Lib.hid hY
  have hJ' := Lib.hid hJ
  have hH' := Lib.hid hH
  have hZ' := Lib.hid hZ
  have hmx : Try.prog.follows .mixedOrders = true := by kernel_rfl
  clear hY hJ hH hZ hP0
  refine scope_in ?_
  gi_wp2_with (refine wpIn_label ?_)
  gi_loopw [11] (fun i wr => ∃ k : Nat, k ≤ p ∧ i = .int .i64 k ∧ J (pre 1 p s 0 k).length wr) (fun i wr => p - (intOf i).toNat)
  case atStart => exact ⟨0, by omega, rfl, by simpa [pre] using h0⟩
  case round =>
    clear c0 c1 c2 c3
    obtain ⟨k, hk, rfl, hJk⟩ := hrel
    have hP := hH'.out _ _ hJk
    obtain ⟨c0, c1, c2, c3⟩ := hP.cells
    have hJk' := Lib.hid hJk
    clear hP hJk
    by_cases hkp : k < p
    · by_cases hfar : qOf p ≤ k
      · obtain ⟨f, hf⟩ : ∃ f, k - qOf p = f := ⟨_, rfl⟩
        have hw : Hid (ways 1 p 0 k = some (f, 1)) := Lib.hid (by simp [ways, hfar, hf])
        have hfi : (k : Int) - (qOf p : Int) = (f : Int) := by omega
        have hfar2 : ((qOf p : Nat) : Int) ≤ (k : Int) := by omega
        have hqpos := qOf_pos p
        have hfk : f < k := by omega
        have hq := Lib.hid (fun w => q_c 1 s p w h1 h2)
        clear hf hfar
        generalize qOf p = q at *
        gi_wp2_with (first | refine wpIn_label ?_ | refine scope_in ?_)
        gi_region_with_o (fail)
        have c0' : wr.drew.cell? ⟨b1, 0, none⟩ = some (.int .i64 1) := c0
        have c1' : wr.drew.cell? ⟨b1, 1, none⟩ = some (.int .i64 p) := c1
        have c2' : wr.drew.cell? ⟨b1, 2, none⟩ = some (.int .i64 s) := c2
        have c3' : wr.drew.cell? ⟨b2, 0, none⟩ = some (.int .i64 0) := c3
        gi_wp2_with (first | refine wpIn_label ?_ | refine scope_in ?_)
        refine ⟨trivial, rfl, calls_in ((hq.out _).mono ?_)⟩
        rintro e w1 ⟨rfl, hk1⟩
        have hJ1 := Lib.hid (hJ'.out _ _ _ (hJ'.out _ _ _ hJk'.out (Kp.refl no _).drew) hk1)
        have hP1 := hH'.out _ _ hJ1.out
        clear c0' c1' c2' c3' c0 c1 c2 c3
        obtain ⟨c0, c1, c2, c3⟩ := hP1.cells
        clear hP1 hk1
        gi_wp2_with (first | refine wpIn_label ?_ | refine scope_in ?_)
        refine ⟨trivial, rfl, calls_in ((hq.out _).mono ?_)⟩
        rintro e w2 ⟨rfl, hk2⟩
        have hJ2 := Lib.hid (hJ'.out _ _ _ hJ1.out hk2)
        have hP2 := hH'.out _ _ hJ2.out
        clear c0 c1 c2 c3
        obtain ⟨c0, c1, c2, c3⟩ := hP2.cells
        clear hP2 hk2
        gi_wp2_with (first | refine wpIn_label ?_ | refine scope_in ?_)
        obtain ⟨wo, hwo⟩ : ∃ wo : World, wo = w2 := ⟨_, rfl⟩
        have hwo' := Lib.hid hwo
        clear hwo
        gi_loopw [7] (fun i V => ∃ j : Nat, j ≤ 1 ∧ i = .int .i64 ((f : Int) + (j : Int)) ∧ J (pre 1 p s 0 k ++ inner 1 p s 0 k f j).length V) (fun i _ => (1 + f) - (intOf i).toNat)
        case atStart => exact ⟨0, by omega, by simp, by simpa [inner] using hJ2.out⟩
        case round =>
          clear c0 c1 c2 c3
          obtain ⟨j, hj, rfl, hJj⟩ := hrel
          have hP := hH'.out _ _ hJj
          obtain ⟨c0, c1, c2, c3⟩ := hP.cells
          have hJj' := Lib.hid hJj
          clear hJj
          by_cases hjm : j < 1
          · by_cases hself : f + j = k
            · exfalso; omega
            · have hsb : (((f : Int) + (j : Int)) == (k : Int)) = false := by simp; omega
              have HM := Lib.hid (moves_at 1 p s 0 k f 1 j hkp hw.out hjm (by omega))
              have hin := Lib.hid (inner_succ 1 p s 0 k f j)
              have hto : f + j < p := by omega
              have hheld := Lib.hid (fun w => held_c 1 p s (f + j) 1 w (by omega) h1 h2 h3 (by omega) (by omega))
              have hsp : Hid (mvSpan 1 p s 0 (f + j) = (0, s)) := Lib.hid (by rfl)
              have hself' := Lib.hid hself
              clear hself
              generalize hhe : heldOf 1 p s (f + j) 1 = x at hheld hsp
              obtain ⟨ha, hb⟩ := x
              clear hhe
              have hP' := Lib.hid hP
              clear hP
              gi_wp2_with fail
              refine ⟨trivial, rfl, calls_in ((hheld.out _).mono ?_)⟩
              rintro e w1 ⟨rfl, hk1⟩
              unfold span
              have hJ3 := hJ'.out _ _ _ hJj'.out (hk1.alloc (.cells #[.int .i64 0, .int .i64 s] 29))
              have hP1 := hP'.out.no hk1
              clear c0 c1 c2 c3
              obtain ⟨c0, c1, c2, c3⟩ := hP1.cells
              have g1 := blk_lt hP1.1
              have g2 := blk_lt hP1.2
              obtain ⟨hl, hx⟩ := HM.out
              obtain ⟨fn, tmps, assign, body, hy, hR⟩ := hY'.out _ (by simpa using hl) _ hJ3
              rw [List.getElem_map, hx, show moveV (mkMv 1 p s 0 k (f + j)) = .agg #[.int .i64 0, .int .i64 k, .int .i64 ((f : Int) + (j : Int)), .int .i64 0, .int .i64 s] by unfold mkMv; rw [hsp.out]; simp [moveV]] at hy
              clear hl hx
              have hR' := Lib.hid hR
              have hP1' := Lib.hid hP1
              clear hR hP1 hk1
              gi_wp2_with fail
              refine ⟨rfl, hR'.out.mono ?_⟩
              rintro e w3 (⟨rfl, hJ4, -⟩ | ⟨rfl, hZ4⟩)
              · have hP4 := hH'.out _ _ hJ4
                clear c0 c1 c2 c3
                obtain ⟨c0, c1, c2, c3⟩ := hP4.cells
                have hJ4' := Lib.hid hJ4
                clear hJ4 hP4
                gi_wp2_with fail
                go_roundw
                case rel =>
                  refine ⟨j + 1, by omega, by go_num, ?_⟩
                  rw [hin.out, if_neg (by have := hself'.out; omega), ← List.append_assoc, List.length_append]
                  exact hJ4'.out
                case measure => (simp [intOf]; try omega)
              · have hZ4' := Lib.hid hZ4
                clear hZ4
                gi_wp2_with fail
                repeat (first | rw [Exit.noGoto_ret] | gi_step)
                refine bodyPost_ret (results_none rfl _ _ _) rfl ?_
                exact ⟨⟨_, rfl⟩, .inr hZ4'.out⟩
          · obtain rfl : j = 1 := by omega
            clear hP
            gi_wp2
            simp only [Exit.noGoto_normal]
            gi_wp2
            go_roundw
            case rel =>
              refine ⟨k + 1, by omega, by go_num, ?_⟩
              rw [pre_succ, mvFrom, hw.out]
              exact hJj'.out
            case measure => (simp [intOf]; try omega)
      · have hw : Hid (ways 1 p 0 k = none) := Lib.hid (by simp [ways]; omega)
        have hfar2 : ¬ ((qOf p : Nat) : Int) ≤ (k : Int) := by omega
        have hq := Lib.hid (fun w => q_c 1 s p w h1 h2)
        clear hfar
        generalize qOf p = q at *
        gi_wp2_with (first | refine wpIn_label ?_ | refine scope_in ?_)
        gi_region_with_o (fail)
        have c0' : wr.drew.cell? ⟨b1, 0, none⟩ = some (.int .i64 1) := c0
        have c1' : wr.drew.cell? ⟨b1, 1, none⟩ = some (.int .i64 p) := c1
        have c2' : wr.drew.cell? ⟨b1, 2, none⟩ = some (.int .i64 s) := c2
        have c3' : wr.drew.cell? ⟨b2, 0, none⟩ = some (.int .i64 0) := c3
        gi_wp2_with (first | refine wpIn_label ?_ | refine scope_in ?_)
        refine ⟨trivial, rfl, calls_in ((hq.out _).mono ?_)⟩
        rintro e w1 ⟨rfl, hk1⟩
        have hJ1 := Lib.hid (hJ'.out _ _ _ (hJ'.out _ _ _ hJk'.out (Kp.refl no _).drew) hk1)
        have hP1 := hH'.out _ _ hJ1.out
        clear c0' c1' c2' c3' c0 c1 c2 c3
        obtain ⟨c0, c1, c2, c3⟩ := hP1.cells
        clear hP1 hk1
        gi_wp2_with (first | refine wpIn_label ?_ | refine scope_in ?_)
        refine ⟨trivial, ?_⟩
        gi_wp2
        repeat (first | rw [Exit.noGoto_exit] | rw [Exit.noGoto_normal] | gi_step)
        gi_wp2
        go_roundw
        case rel =>
          refine ⟨k + 1, by omega, by go_num, ?_⟩
          rw [pre_succ, mvFrom, hw.out, List.append_nil]
          exact hJ1.out
        case measure => (simp [intOf]; try omega)
    · obtain rfl : k = p := by omega
      gi_wp2
      repeat (first | rw [Exit.noGoto_ret] | rw [Exit.noGoto_normal] | gi_step)
      go_end0
      exact ⟨⟨_, rfl⟩, .inl (by simpa [movesOf] using hJk'.out)⟩
end Go.Proofs.Ytamhlmfcnnomgaa
