/- The walks of swap's held and Held. -/
import Derived.Test.YtamhlmfcnnomgaaFns
namespace Go.Proofs.Ytamhlmfcnnomgaa
open Go.RowKit

def span (x : Nat × Nat) : Value := .agg #[.int .i64 x.1, .int .i64 x.2]

theorem held_zero (mode p s place : Nat) (w : World) : Calls Try.prog 29 #[.agg #[.int .i64 mode, .int .i64 p, .int .i64 s], .int .i64 place, .int .i64 0] w fun e w' =>
    e = .returned (span (0, s)) ∧ Kp no w w' := by
  go_enter Try.func29, Try.ntmps29
  go_wp2_with fail
  refine bodyPost_ret (v := span (0, s)) (by simp [span, results, Try.results29, go_sem]) rfl ⟨rfl, ?_⟩
  exact (((Kp.refl no _).alloc _).alloc _)

theorem held_direct (p s place round : Nat) (w : World) (h0 : 1 ≤ round) (h1 : 1 ≤ p) (h2 : p ≤ 64) (h3 : s ≤ 4096) (h4 : place < p) : Calls Try.prog 29 #[.agg #[.int .i64 2, .int .i64 p, .int .i64 s], .int .i64 place, .int .i64 round] w fun e w' =>
    e = .returned (span (place * s / p, (place + 1) * s / p)) ∧ Kp no w w' := by
  have hr : ((round : Int) == 0) = false := by simp; omega
  have b1 : place * s ≤ 64 * 4096 := Nat.mul_le_mul (by omega) h3
  have b2 : (place + 1) * s ≤ 64 * 4096 := Nat.mul_le_mul (by omega) h3
  have e1 : wrap64 ((place : Int) * (s : Int)) = ((place * s : Nat) : Int) := by rw [← Int.natCast_mul]; unfold wrap64; omega
  have e2 : wrap64 (((place : Int) + 1) * (s : Int)) = (((place + 1) * s : Nat) : Int) := by
    rw [show ((place : Int) + 1) = ((place + 1 : Nat) : Int) by omega, ← Int.natCast_mul]; unfold wrap64; omega
  have e3 : ((place * s : Nat) : Int) / (p : Int) = ((place * s / p : Nat) : Int) := (Int.natCast_ediv _ _).symm
  have e4 : (((place + 1) * s : Nat) : Int) / (p : Int) = (((place + 1) * s / p : Nat) : Int) := (Int.natCast_ediv _ _).symm
  have b3 : place * s / p ≤ place * s := Nat.div_le_self _ _
  have b4 : (place + 1) * s / p ≤ (place + 1) * s := Nat.div_le_self _ _
  have hp1 : (1 : Int) ≤ p := by omega
  have hpz : ((p : Int) == 0) = false := by simp; omega
  have hpz2 : decide (p = 0) = false := by simp; omega
  have hpz3 : ¬ (p : Int) = 0 := by omega
  generalize place * s = A at *
  generalize (place + 1) * s = B at *
  obtain ⟨A', hA'⟩ : ∃ A', A / p = A' := ⟨_, rfl⟩
  obtain ⟨B', hB'⟩ : ∃ B', B / p = B' := ⟨_, rfl⟩
  rw [hA'] at e3 b3 ⊢
  rw [hB'] at e4 b4 ⊢
  clear hA' hB'
  go_enter Try.func29, Try.ntmps29
  go_wp2_with fail
  go_region
  all_goals go_wp2_with fail
  all_goals
    refine bodyPost_ret (v := span (A', B')) (by simp [span, results, Try.results29, go_sem]) rfl ⟨rfl, ?_⟩
    exact (((Kp.refl no _).alloc _).alloc _).drew

theorem bit_lit (x : Int) (h0 : 0 ≤ x) (h1 : x ≤ 9223372036854775807) : bits .and .i64 x 1 = x % 2 := by
  show IntKind.i64.wrap ((BitVec.ofInt 64 x &&& BitVec.ofInt 64 1).toNat : Int) = _
  have e : (BitVec.ofInt 64 x &&& BitVec.ofInt 64 1).toNat = x.toNat % 2 := by
    rw [BitVec.toNat_and, BitVec.toNat_ofInt, BitVec.toNat_ofInt]
    have e1 : (x % ((2 ^ 64 : Nat) : Int)).toNat = x.toNat := by congr 1; omega
    rw [e1, show ((1 : Int) % ((2 ^ 64 : Nat) : Int)).toNat = 1 from by decide, Nat.and_one_is_mod]
  rw [e, IntKind.wrap_i64]
  omega

theorem two_blk {w : World} {b : Nat} {x y : Value} {t : TypeId} (h : w.heap[b]? = some (.cells #[x, y] t)) :
    w.cell? ⟨b, 0, none⟩ = some x ∧ w.cell? ⟨b, 1, none⟩ = some y ∧ w.frozen? ⟨b, 0, none⟩ = false ∧ w.frozen? ⟨b, 1, none⟩ = false :=
  ⟨blk_cell h 0 _ rfl, blk_cell h 1 _ rfl, blk_frozen h 0, blk_frozen h 1⟩
theorem three_blk {w : World} {b : Nat} {x y z : Value} {t : TypeId} (h : w.heap[b]? = some (.cells #[x, y, z] t)) :
    w.cell? ⟨b, 0, none⟩ = some x ∧ w.cell? ⟨b, 1, none⟩ = some y ∧ w.cell? ⟨b, 2, none⟩ = some z :=
  ⟨blk_cell h 0 _ rfl, blk_cell h 1 _ rfl, blk_cell h 2 _ rfl⟩

theorem held_far (mode p s place round : Nat) (w : World) (h0 : 1 ≤ round) (h1 : 1 ≤ p) (h2 : p ≤ 64) (hm : mode ≠ 2) (hq : qOf p ≤ place) : Calls Try.prog 29 #[.agg #[.int .i64 mode, .int .i64 p, .int .i64 s], .int .i64 place, .int .i64 round] w fun e w' =>
    e = .returned (span (0, 0)) ∧ Kp no w w' := by
  have hr : ((round : Int) == 0) = false := by simp; omega
  have hmb : ((mode : Int) == 2) = false := by simp; omega
  have hq' := Lib.hid (fun w => q_c mode s p w h1 h2)
  have hqi : (qOf p : Int) ≤ place := by omega
  clear hq
  generalize qOf p = q at *
  obtain ⟨n, hn⟩ : ∃ n, w.heap.size = n := ⟨_, rfl⟩
  go_enter Try.func29, Try.ntmps29
  go_wp2_with fail
  refine (hq'.out _).mono ?_
  rintro e w1 ⟨rfl, hk⟩
  have hK := (((Kp.refl no w).alloc _).alloc _).trans hk
  have hb2 := hk.at (blk_new _ _) (fun h => h)
  have hsz := hk.size
  simp only [World.size_alloc, hn] at hb2 hsz
  obtain ⟨c0, c1, f0, f1⟩ := two_blk hb2
  have hb2' := Lib.hid hb2
  have hK' := Lib.hid hK
  have hn' := Lib.hid hn
  clear hb2 hK hk
  go_wp2_with fail
  have hfin := (hK'.out.then (((Kp.refl (fun k => k = n + 1) w1).setCell (p := ⟨n + 1, 0, none⟩) (.inl rfl) (.int .i64 0)).setCell (p := ⟨n + 1, 1, none⟩) (.inl rfl) (.int .i64 0)) (fun _ _ h => h) (U := no) (fun k hk h => by have := hn'.out; omega))
  refine bodyPost_ret (v := span (0, 0)) (by simp [span, results, Try.results29, go_sem, c0, c1]) rfl ⟨rfl, hfin⟩

/-- The loop of halves. -/
theorem held_halves (mode p s place round : Nat) (w : World) (h0 : 1 ≤ round) (hr64 : round ≤ 64) (h1 : 1 ≤ p) (h2 : p ≤ 64) (h3 : s ≤ 4096) (hm : mode ≠ 2) (hq : place < qOf p) : Calls Try.prog 29 #[.agg #[.int .i64 mode, .int .i64 p, .int .i64 s], .int .i64 place, .int .i64 round] w fun e w' =>
    e = .returned (span (sIter place s (round - 1))) ∧ Kp no w w' := by
  have hr : ((round : Int) == 0) = false := by simp; omega
  have hmb : ((mode : Int) == 2) = false := by simp; omega
  have hq' := Lib.hid (fun w => q_c mode s p w h1 h2)
  have hqi : (place : Int) < qOf p := by omega
  have hqp : place < 64 := by have := qOf_le h1; omega
  clear hq
  generalize qOf p = q at *
  have hqd : decide (q ≤ place) = false := by simp; omega
  obtain ⟨n, hn⟩ : ∃ n, w.heap.size = n := ⟨_, rfl⟩
  go_enter Try.func29, Try.ntmps29
  go_wp2_with fail
  refine (hq'.out _).mono ?_
  rintro e w1 ⟨rfl, hk⟩
  have hK := (((Kp.refl no w).alloc _).alloc _).trans hk
  have hb1 := hk.at (blk_alloc (blk_new _ _) _) (fun h => h)
  have hb2 := hk.at (blk_new _ _) (fun h => h)
  have hsz := hk.size
  simp only [World.size_alloc, hn] at hb1 hb2 hsz
  obtain ⟨g0, g1, g2⟩ := three_blk hb1
  have hb2' := Lib.hid hb2
  have hK' := Lib.hid hK
  have hn' := Lib.hid hn
  clear hb1 hb2 hK hk
  go_wp2_with fail
  obtain ⟨m, hm'⟩ : ∃ m, w1.heap.size = m := ⟨_, rfl⟩
  have hB : (w1.alloc (.cells #[.int .i64 0, .int .i64 s] 29)).heap[m]? = some (.cells #[.int .i64 ((sIter place s 0).1 : Int), .int .i64 ((sIter place s 0).2 : Int)] 29) := by
    rw [← hm']; exact blk_new _ _
  have hW : Kp no w1 (w1.alloc (.cells #[.int .i64 0, .int .i64 s] 29)) := (Kp.refl no w1).alloc _
  rw [hm'] at hsz ⊢
  generalize w1.alloc _ = W at hB hW ⊢
  have hm2 := Lib.hid hm'
  clear hm' hn hqd
  go_loopw [47] (fun i V => ∃ k : Nat, k ≤ round - 1 ∧ i = .int .i64 k ∧ V.heap[m]? = some (.cells #[.int .i64 ((sIter place s k).1 : Int), .int .i64 ((sIter place s k).2 : Int)] 29) ∧ Kp no w1 V) (fun i _ => round - (intOf i).toNat)
  case atStart => exact ⟨0, by omega, rfl, hB, hW⟩
  case round =>
    obtain ⟨k, hk, rfl, hV, hKV⟩ := hrel
    clear hB hW W
    obtain ⟨l1, l2⟩ := sIter_le place s k
    have hst : sIter place s (k + 1) = sStep place k (sIter place s k) := rfl
    generalize hx : sIter place s k = x at *
    obtain ⟨a, b⟩ := x
    have hx' := Lib.hid hx
    clear hx
    simp only at hV l1 l2
    obtain ⟨c0, c1, f0, f1⟩ := two_blk hV
    by_cases hlt : k < round - 1
    · have hli : (k : Int) < (round : Int) - 1 := by omega
      have hmid : (a : Int) + ((b : Int) - (a : Int)) / 2 = ((a + (b - a) / 2 : Nat) : Int) := by omega
      obtain ⟨mid, hmd⟩ : ∃ mid, a + (b - a) / 2 = mid := ⟨_, rfl⟩
      rw [hmd] at hmid
      have hmb1 : mid ≤ b := by omega
      have ep : (place : Int) / 2 ^ k = ((place / 2 ^ k : Nat) : Int) := by rw [show (2 : Int) ^ k = ((2 ^ k : Nat) : Int) by simp, ← Int.natCast_ediv]
      obtain ⟨y, hy⟩ : ∃ y, place / 2 ^ k = y := ⟨_, rfl⟩
      have hyn : y ≤ place := by rw [← hy]; exact Nat.div_le_self _ _
      rw [hy] at ep
      have eb := bit_lit (y : Int) (by omega) (by omega)
      have hV' := Lib.hid hV
      have hst' := Lib.hid hst
      have hmd' := Lib.hid hmd
      have hy' := Lib.hid hy
      clear hV hst hmd hy
      by_cases hbit : y % 2 = 0
      · have hbi : ((y : Int) % 2 == 0) = true := by simp; omega
        have hbit' := Lib.hid hbit
        clear hbit
        go_wp2_with fail
        go_roundw
        case rel =>
          refine ⟨k + 1, by omega, by go_num, ?_, hKV.then ((Kp.refl (fun k => k = m) wr).setCell (p := ⟨m, 1, none⟩) (.inl rfl) _) (fun _ _ h => h) (fun k hk h => by have := hm2.out; omega)⟩
          rw [hst'.out, sStep, hy'.out, if_pos hbit'.out, hmd'.out, blk_setCell hV'.out]
          rfl
        case measure => (simp [intOf]; try omega)
      · have hbi : ((y : Int) % 2 == 0) = false := by simp; omega
        have hbit' := Lib.hid hbit
        clear hbit
        go_wp2_with fail
        go_roundw
        case rel =>
          refine ⟨k + 1, by omega, by go_num, ?_, hKV.then ((Kp.refl (fun k => k = m) wr).setCell (p := ⟨m, 0, none⟩) (.inl rfl) _) (fun _ _ h => h) (fun k hk h => by have := hm2.out; omega)⟩
          rw [hst'.out, sStep, hy'.out, if_neg hbit'.out, hmd'.out, blk_setCell hV'.out]
          rfl
        case measure => (simp [intOf]; try omega)
    · obtain rfl : k = round - 1 := by omega
      have hli : ¬ ((round - 1 : Nat) : Int) < (round : Int) - 1 := by omega
      have hb3 := hKV.at hb2'.out (fun h => h)
      obtain ⟨d0, d1, e0, e1⟩ := two_blk hb3
      have hV' := Lib.hid hV
      clear hV hst hb3
      go_wp2_with fail
      have hfin := (hK'.out.trans hKV).then (((Kp.refl (fun k => k = n + 1) wr).setCell (p := ⟨n + 1, 0, none⟩) (.inl rfl) (.int .i64 a)).setCell (p := ⟨n + 1, 1, none⟩) (.inl rfl) (.int .i64 b)) (fun _ _ h => h) (U := no) (fun k hk h => by have := hn'.out; omega)
      exact bodyPost_ret (v := span (a, b)) (by simp [span, results, Try.results29, go_sem, d0, d1]) rfl ⟨by rw [hx'.out], hfin⟩

theorem held_c (mode p s place round : Nat) (w : World) (hm : mode = 1 ∨ mode = 2) (h1 : 1 ≤ p) (h2 : p ≤ 64) (h3 : s ≤ 4096) (h4 : place < p) (h5 : round ≤ 64) :
    Calls Try.prog 29 #[.agg #[.int .i64 mode, .int .i64 p, .int .i64 s], .int .i64 place, .int .i64 round] w fun e w' =>
    e = .returned (span (heldOf mode p s place round)) ∧ Kp no w w' := by
  by_cases hr : round = 0
  · subst hr; exact held_zero mode p s place w
  · rw [heldOf, if_neg hr]
    rcases hm with rfl | rfl
    · rw [if_neg (by omega)]
      by_cases hq : qOf p ≤ place
      · rw [if_pos hq]; exact held_far 1 p s place round w (by omega) h1 h2 (by omega) hq
      · rw [if_neg hq]; exact held_halves 1 p s place round w (by omega) h5 h1 h2 h3 (by omega) (by omega)
    · rw [if_pos rfl]; exact held_direct p s place round w (by omega) h1 h2 h3 h4
end Go.Proofs.Ytamhlmfcnnomgaa
