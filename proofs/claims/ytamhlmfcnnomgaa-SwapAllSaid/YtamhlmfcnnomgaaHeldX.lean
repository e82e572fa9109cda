/- The walk of swap's Held, over any numbers. -/
import Derived.Test.YtamhlmfcnnomgaaHeld
import Derived.Test.YtamhlmfcnnomgaaOrder
namespace Go.Proofs.Ytamhlmfcnnomgaa
open Go.RowKit
set_option linter.unusedVariables false

/-- How many rounds, of any numbers. -/
def roundsI (mode p : Int) : Int := if mode = 2 then 1 else Lib.bitLen (p % 18446744073709551616).toNat
theorem bitLen64 (x : Nat) (h : x < 18446744073709551616) : Lib.bitLen x ≤ 64 := by
  by_cases h0 : x = 0
  · subst h0; decide
  · rw [bitLen_log x (by omega) h]
    have : Nat.log2 x < 64 := by rw [Nat.log2_lt h0]; exact h
    omega
theorem roundsI_le (mode p : Int) : 0 ≤ roundsI mode p ∧ roundsI mode p ≤ 64 := by
  unfold roundsI
  split
  · omega
  · have := bitLen64 (p % 18446744073709551616).toNat (by omega)
    omega
theorem roundsI_ok {mode p s : Int} (h : okP mode p s) : roundsI mode p = (roundsOf mode.toNat p.toNat : Int) := by
  obtain ⟨hm, h1, h2, _⟩ := h
  unfold roundsI roundsOf
  by_cases h : mode = 2
  · subst h; simp
  · rw [if_neg h, if_neg (by omega), Int.emod_eq_of_lt (by omega) (by omega), bitLen_log _ (by omega) (by omega)]
theorem roundsI_nat (mode p : Nat) (h0 : 1 ≤ p) (h1 : p ≤ 64) : roundsI mode p = (roundsOf mode p : Int) := by
  unfold roundsI roundsOf
  by_cases h : mode = 2
  · subst h; simp
  · rw [if_neg (by omega), if_neg h, Int.emod_eq_of_lt (by omega) (by omega), bitLen_log _ (by omega) (by omega), Int.toNat_natCast]

theorem roundsI_c (mode p s : Int) (w : World) (h0 : -9223372036854775808 ≤ p) (h1 : p ≤ 9223372036854775807) : Calls Try.prog 26 #[.agg #[.int .i64 mode, .int .i64 p, .int .i64 s]] w fun e w' =>
    e = .returned (.int .i64 (roundsI mode p)) ∧ Kp no w w' := by
  by_cases hm : mode = 2
  · subst hm
    go_enter Try.func26, Try.ntmps26
    go_wp2_with fail
    go_ret
    exact ⟨rfl, (Kp.refl _ _).alloc _⟩
  · have hmb : (mode == 2) = false := by simp; omega
    have hr := Lib.hid (show ((Lib.bitLen (p % 18446744073709551616).toNat : Nat) : Int) = roundsI mode p by simp [roundsI, hm])
    have hl := Lib.hid (fun w => len_c (p % 18446744073709551616) w (by omega) (by omega))
    clear hm
    obtain ⟨u, hu⟩ : ∃ u, p % 18446744073709551616 = u := ⟨_, rfl⟩
    rw [hu] at hl hr
    have huw : IntKind.u64.wrap p = u := by rw [IntKind.wrap_u64]; exact hu
    by_cases hp : 0 ≤ p
    · obtain rfl : u = p := by omega
      clear hu huw
      go_enter Try.func26, Try.ntmps26
      go_wp2_with fail
      refine (hl.out _).mono ?_
      rintro e w' ⟨rfl, rfl⟩
      go_wp2_with fail
      go_ret
      exact ⟨ret_i hr.out, (Kp.refl _ _).alloc _⟩
    · clear hu
      go_enter Try.func26, Try.ntmps26
      go_wp2_with fail
      refine (hl.out _).mono ?_
      rintro e w' ⟨rfl, rfl⟩
      go_wp2_with fail
      go_ret
      exact ⟨ret_i hr.out, (Kp.refl _ _).alloc _⟩

/-- What Held answers. -/
def heldE (mode p s place round : Int) : Int := mayE mode p s place round (roundsI mode p)
def heldV (mode p s place round : Int) : Value := if heldE mode p s place round = 0 then span (heldOf mode.toNat p.toNat s.toNat place.toNat round.toNat) else span (0, 0)

set_option maxHeartbeats 1000000 in
theorem held_any (mode p s place round : Int) (w : World) (h0 : -9223372036854775808 ≤ p) (h1 : p ≤ 9223372036854775807) :
    Calls Try.prog 19 #[.int .i64 mode, .int .i64 p, .int .i64 s, .int .i64 place, .int .i64 round] w fun e w' =>
    e = .returned (.tuple #[heldV mode p s place round, .int .i64 (heldE mode p s place round)]) ∧ Kp no w w' := by
  obtain ⟨n, hn⟩ : ∃ n, w.heap.size = n := ⟨_, rfl⟩
  have hrl := roundsI_le mode p
  have hR := Lib.hid (fun w => roundsI_c mode p s w h0 h1)
  have hM := Lib.hid (fun w => may_c mode p s place round (roundsI mode p) w)
  have hE := Lib.hid (show mayE mode p s place round (roundsI mode p) = heldE mode p s place round from rfl)
  have hok : heldE mode p s place round = 0 → okP mode p s ∧ 0 ≤ place ∧ place < p ∧ 0 ≤ round ∧ round ≤ roundsI mode p := by
    intro h
    unfold heldE mayE at h
    by_cases a : okP mode p s
    · rw [if_pos a] at h
      by_cases b : place < 0 ∨ p ≤ place ∨ round < 0 ∨ roundsI mode p < round
      · rw [if_pos b] at h; cases h
      · exact ⟨a, by omega, by omega, by omega, by omega⟩
    · rw [if_neg a] at h; cases h
  have hHd : Hid (heldE mode p s place round = 0 → ∀ w, Calls Try.prog 29 #[.agg #[.int .i64 mode, .int .i64 p, .int .i64 s], .int .i64 place, .int .i64 round] w fun e w' =>
      e = .returned (span (heldOf mode.toNat p.toNat s.toNat place.toNat round.toNat)) ∧ Kp no w w') := Lib.hid (fun h w => by
    obtain ⟨⟨a1, a2, a3, a4, a5⟩, a6, a7, a8, a9⟩ := hok h
    have := held_c mode.toNat p.toNat s.toNat place.toNat round.toNat w (by omega) (by omega) (by omega) (by omega) (by omega) (by omega)
    rw [show (mode.toNat : Int) = mode by omega, show (p.toNat : Int) = p by omega, show (s.toNat : Int) = s by omega, show (place.toNat : Int) = place by omega, show (round.toNat : Int) = round by omega] at this
    exact this)
  clear hok
  generalize hre : roundsI mode p = r at *
  rw [hE.out] at hM
  have hv : Hid (heldV mode p s place round = if heldE mode p s place round = 0 then span (heldOf mode.toNat p.toNat s.toNat place.toNat round.toNat) else span (0, 0)) := Lib.hid rfl
  generalize heldE mode p s place round = E at *
  generalize heldV mode p s place round = V at *
  have hre' := Lib.hid hre
  clear hre
  go_enter Try.func19, Try.ntmps19
  go_wp2_with fail
  have hS : (fun W => W.heap[n]? = some (.cells #[.int .i64 0, .int .i64 0] 29) ∧ (W.cell? ⟨n + 1, 0, none⟩ = some (.int .i64 mode) ∧ W.cell? ⟨n + 1, 1, none⟩ = some (.int .i64 p) ∧ W.cell? ⟨n + 1, 2, none⟩ = some (.int .i64 s)) ∧ Kp no w W ∧ n + 2 ≤ W.heap.size) ((w.alloc (.cells #[.int .i64 0, .int .i64 0] 29)).alloc (.cells #[.int .i64 mode, .int .i64 p, .int .i64 s] 65)) := by
    have e : n + 1 = (w.alloc (.cells #[.int .i64 0, .int .i64 0] 29)).heap.size := by rw [World.size_alloc, hn]
    refine ⟨blk_alloc (by rw [← hn]; exact blk_new _ _) _, ?_, ((Kp.refl no w).alloc _).alloc _, by simp only [World.size_alloc]; omega⟩
    rw [e]
    exact three_blk (blk_new _ _)
  generalize World.alloc _ _ = W0 at hS ⊢
  have hS' := Lib.hid hS
  have hn' := Lib.hid hn
  clear hS hn
  refine wp_region_held_drew (S := (fun W => W.heap[n]? = some (.cells #[.int .i64 0, .int .i64 0] 29) ∧ (W.cell? ⟨n + 1, 0, none⟩ = some (.int .i64 mode) ∧ W.cell? ⟨n + 1, 1, none⟩ = some (.int .i64 p) ∧ W.cell? ⟨n + 1, 2, none⟩ = some (.int .i64 s)) ∧ Kp no w W ∧ n + 2 ≤ W.heap.size)) (by kernel_rfl) ⟨hS'.out.1, hS'.out.2.1, hS'.out.2.2.1.drew, hS'.out.2.2.2⟩ (fun hHeld => ?_)
  refine takeL (i := 0) rfl (by kernel_rfl) (by kernel_rfl) (by kernel_rfl) (fun _ _ _ _ h => h) hHeld ?_ (Or.inl ⟨by rfl, ?_⟩) ?_
  rotate_left
  · intro W hW
    (try dsimp only at hW)
    first | (go_simp; done) | (go_simp; with_reducible rfl)
  simp only [Act.put, List.setIfInBounds_toArray, List.set_cons_zero, List.set_cons_succ]
  refine takeL (i := 1) rfl (by kernel_rfl) (by kernel_rfl) (by kernel_rfl) (fun _ _ _ _ h => h) hHeld ?_ (Or.inl ⟨by rfl, ?_⟩) ?_
  rotate_left
  · intro W hW
    (try dsimp only at hW)
    first | (go_simp; done) | (go_simp; with_reducible rfl)
  simp only [Act.put, List.setIfInBounds_toArray, List.set_cons_zero, List.set_cons_succ]
  refine takeL (i := 2) rfl (by kernel_rfl) (by kernel_rfl) (by kernel_rfl) (fun _ _ _ _ h => h) hHeld ?_ (Or.inl ⟨by rfl, ?_⟩) ?_
  rotate_left
  · intro W hW
    (try dsimp only at hW)
    first | (go_simp; done) | (go_simp; with_reducible rfl)
  simp only [Act.put, List.setIfInBounds_toArray, List.set_cons_zero, List.set_cons_succ]
  refine takeL (i := 3) rfl (by kernel_rfl) (by kernel_rfl) (by kernel_rfl) (fun _ _ _ _ h => h) hHeld ?_ (Or.inl ⟨by rfl, ?_⟩) ?_
  rotate_left
  · intro W hW
    (try dsimp only at hW)
    first | (go_simp; done) | (go_simp; with_reducible rfl)
  simp only [Act.put, List.setIfInBounds_toArray, List.set_cons_zero, List.set_cons_succ]
  refine callL (i := 4) rfl (by kernel_rfl) (fun K hK => ?_)
  go_simp
  refine (hR.out _).mono ?_
  rintro e w' ⟨rfl, hk⟩
  have hH3 := And.intro (hk.at hHeld.1 (fun h => h)) (And.intro (And.intro (hk.cell hHeld.2.1.1 (fun h => h)) (And.intro (hk.cell hHeld.2.1.2.1 (fun h => h)) (hk.cell hHeld.2.1.2.2 (fun h => h)))) (And.intro (hHeld.2.2.1.trans hk) (Nat.le_trans hHeld.2.2.2 hk.size)))
  refine hK.out _ _ hH3 (fun hHeld2 => ?_)
  clear hK hHeld hH3 hk
  have hHeld := hHeld2
  clear hHeld2
  try simp only [Act.put, List.setIfInBounds_toArray, List.set_cons_zero, List.set_cons_succ]
  refine callL (i := 5) rfl (by kernel_rfl) (fun K hK => ?_)
  go_simp
  refine (hM.out _).mono ?_
  rintro e w' ⟨rfl, hk⟩
  have hH3 := And.intro (hk.at hHeld.1 (fun h => h)) (And.intro (And.intro (hk.cell hHeld.2.1.1 (fun h => h)) (And.intro (hk.cell hHeld.2.1.2.1 (fun h => h)) (hk.cell hHeld.2.1.2.2 (fun h => h)))) (And.intro (hHeld.2.2.1.trans hk) (Nat.le_trans hHeld.2.2.2 hk.size)))
  refine hK.out _ _ hH3 (fun hHeld2 => ?_)
  clear hK hHeld hH3 hk
  have hHeld := hHeld2
  clear hHeld2
  try simp only [Act.put, List.setIfInBounds_toArray, List.set_cons_zero, List.set_cons_succ]
  refine takeL (i := 6) rfl (by kernel_rfl) (by kernel_rfl) (by kernel_rfl) (fun _ _ _ _ h => h) hHeld ?_ (Or.inl ⟨by rfl, ?_⟩) ?_
  rotate_left
  · intro W hW
    (try dsimp only at hW)
    first | (go_simp; done) | (go_simp; with_reducible rfl)
  simp only [Act.put, List.setIfInBounds_toArray, List.set_cons_zero, List.set_cons_succ]
  refine wpAnyH_done (by kernel_rfl) ?_ _
  by_cases hE0 : E = 0
  · have hE1 : (E == 0) = true := by simp [hE0]
    have hE2 : (E != 0) = false := by simp [hE0]
    have hC := Lib.hid (hHd.out hE0)
    have hV : Hid (V = span (heldOf mode.toNat p.toNat s.toNat place.toNat round.toNat)) := Lib.hid (by rw [hv.out, if_pos hE0])
    have hE0' := Lib.hid hE0
    obtain ⟨hb, ⟨c0, c1, c2⟩, hk0, hsz⟩ := hHeld
    have hb' := Lib.hid hb
    have hk0' := Lib.hid hk0
    clear hE0 hb hk0
    generalize heldOf mode.toNat p.toNat s.toNat place.toNat round.toNat = x at *
    obtain ⟨a, b⟩ := x
    go_wp2_with fail
    refine (hC.out _).mono ?_
    rintro e w2 ⟨rfl, hk⟩
    obtain ⟨d0, d1, e0, e1⟩ := two_blk (hk.at hb'.out (fun h => h))
    have hfin := Lib.hid ((hk0'.out.trans hk).then (((Kp.refl (fun k => k = n) w2).setCell (p := ⟨n, 0, none⟩) (.inl rfl) (.int .i64 a)).setCell (p := ⟨n, 1, none⟩) (.inl rfl) (.int .i64 b)) (fun _ _ h => h) (U := no) (fun k hk h => by have := hn'.out; omega))
    clear hk
    unfold span
    go_wp2_with fail
    refine bodyPost_ret (v := .tuple #[span (a, b), .int .i64 0]) (by simp [span, results, Try.results19, go_sem, d0, d1]) rfl ⟨by rw [hV.out, hE0'.out], hfin.out⟩
  · have hE1 : (E == 0) = false := by simp [hE0]
    have hE2 : (E != 0) = true := by simp [hE0]
    have hV : Hid (V = span (0, 0)) := Lib.hid (by rw [hv.out, if_neg hE0])
    obtain ⟨hb, ⟨c0, c1, c2⟩, hk0, hsz⟩ := hHeld
    obtain ⟨d0, d1, e0, e1⟩ := two_blk hb
    have hk0' := Lib.hid hk0
    clear hE0 hb hk0
    have hfin := Lib.hid (hk0'.out.then (((Kp.refl (fun k => k = n) _).setCell (p := ⟨n, 0, none⟩) (.inl rfl) (.int .i64 0)).setCell (p := ⟨n, 1, none⟩) (.inl rfl) (.int .i64 0)) (fun _ _ h => h) (U := no) (fun k hk h => by have := hn'.out; omega))
    go_wp2_with fail
    refine bodyPost_ret (v := .tuple #[span (0, 0), .int .i64 E]) (by simp [span, results, Try.results19, go_sem, d0, d1]) rfl ⟨by rw [hV.out], hfin.out⟩
end Go.Proofs.Ytamhlmfcnnomgaa
