/- The walks of swap's Sends and Hears, over any numbers. -/
import Derived.Test.YtamhlmfcnnomgaaSome
namespace Go.Proofs.Ytamhlmfcnnomgaa
open Go.RowKit
set_option linter.unusedVariables false

/-- The error of Sends and Hears. -/
def askE (mode p s place round : Int) : Int := mayE mode p s place round (roundsI mode p - 1)
/-- The moves that are told. -/
def askL (P : Mv → Bool) (mode p s place round : Int) : List Mv := if askE mode p s place round = 0 then (movesOf mode.toNat p.toNat s.toNat round.toNat).filter P else []
theorem askE_ok {mode p s place round : Int} (h : askE mode p s place round = 0) : okP mode p s ∧ 0 ≤ place ∧ place < p ∧ 0 ≤ round ∧ round < roundsI mode p := by
  unfold askE mayE at h
  by_cases a : okP mode p s
  · rw [if_pos a] at h
    by_cases b : place < 0 ∨ p ≤ place ∨ round < 0 ∨ roundsI mode p - 1 < round
    · rw [if_pos b] at h; cases h
    · exact ⟨a, by omega, by omega, by omega, by omega⟩
  · rw [if_neg a] at h; cases h
def frB (place : Int) (m : Mv) : Bool := (m.fr : Int) == place
def toB (place : Int) (m : Mv) : Bool := (m.to : Int) == place

theorem sendsF (place : Int) (n : Nat) : Asks 31 #[.pointer (some ⟨n, 0, none⟩)] (frB place) (fun W => W.heap[n]? = some (.cells #[.int .i64 place] 3)) := by
  intro W m hC
  have c0 := blk_cell hC 0 _ rfl
  have hlt := blk_lt hC
  unfold moveV frB
  clear hC
  show Calls _ _ #[.agg #[.int .i64 m.rd, .int .i64 m.fr, .int .i64 m.to, .int .i64 m.a, .int .i64 m.b], .pointer (some ⟨n, 0, none⟩)] _ _
  go_enter Try.func31, Try.ntmps31
  go_wp2
  go_ret
  exact ⟨rfl, (Kp.refl no _).alloc _⟩

set_option maxHeartbeats 2000000 in
theorem sends_any (mode p s place round : Int) (w : World) (h0 : -9223372036854775808 ≤ p) (h1 : p ≤ 9223372036854775807) :
    Calls Try.prog 21 #[.int .i64 mode, .int .i64 p, .int .i64 s, .int .i64 place, .int .i64 round] w fun e w' =>
    ∃ v, e = .returned (.tuple #[v, .int .i64 (askE mode p s place round)]) ∧ OwnK w' w.heap.size 31 5 v (askL (frB place) mode p s place round).length (mvs (askL (frB place) mode p s place round)) ∧ Kp no w w' := by
  obtain ⟨n, hn⟩ : ∃ n, w.heap.size = n := ⟨_, rfl⟩
  have hrl := roundsI_le mode p
  have hR := Lib.hid (fun w => roundsI_c mode p s w h0 h1)
  have hM := Lib.hid (fun w => may_c mode p s place round (roundsI mode p - 1) w)
  have hE := Lib.hid (show mayE mode p s place round (roundsI mode p - 1) = askE mode p s place round from rfl)
  have hSo : Hid (askE mode p s place round = 0 → ∀ W, W.heap[n]? = some (.cells #[.int .i64 place] 3) → n < W.heap.size → Calls Try.prog 27 #[.agg #[.int .i64 mode, .int .i64 p, .int .i64 s], .int .i64 round, .func (.func 31) #[] #[.pointer (some ⟨n, 0, none⟩)]] W fun e w' =>
      ∃ v, e = .returned v ∧ OwnK w' W.heap.size 31 5 v (askL (frB place) mode p s place round).length (mvs (askL (frB place) mode p s place round)) ∧ Kp no W w') := Lib.hid (fun h W hW hnW => by
    obtain ⟨hok, a6, a7, a8, a9⟩ := askE_ok h
    have hok2 := hok
    rw [roundsI_ok hok] at a9
    obtain ⟨a1, a2, a3, a4, a5⟩ := hok
    have := some_c mode.toNat p.toNat s.toNat round.toNat W (by omega) (by omega) (by omega) (by omega) (by omega) 31 #[.pointer (some ⟨n, 0, none⟩)] (frB place) (fun W => W.heap[n]? = some (.cells #[.int .i64 place] 3)) (sendsF place n)
      (enters_of Try.func31 (by kernel_rfl) rfl) (fun A B S hA hk hS => hk.at hA (fun h => by have := hS n h; omega)) hW
    rw [show (mode.toNat : Int) = mode by omega, show (p.toNat : Int) = p by omega, show (s.toNat : Int) = s by omega, show (round.toNat : Int) = round by omega] at this
    rw [askL, if_pos h]
    exact this)
  have hnil : Hid (askE mode p s place round ≠ 0 → askL (frB place) mode p s place round = []) := Lib.hid (fun h => by rw [askL, if_neg h])
  generalize askL (frB place) mode p s place round = L at *
  generalize hre : roundsI mode p = r at *
  rw [hE.out] at hM
  generalize askE mode p s place round = E at *
  have hre' := Lib.hid hre
  clear hre
  have hmf : ∀ (fn : Fn) (first cap : Array Value) (w : World), (Instr.makeFunc fn first cap).run Try.prog w = .ok (.func fn first cap) w := fun _ _ _ _ => rfl
  go_enter Try.func21, Try.ntmps21
  go_wp2_with fail
  have hS : (fun W => W.heap[n]? = some (.cells #[.int .i64 place] 3) ∧ (W.cell? ⟨n + 1, 0, none⟩ = some (.int .i64 mode) ∧ W.cell? ⟨n + 1, 1, none⟩ = some (.int .i64 p) ∧ W.cell? ⟨n + 1, 2, none⟩ = some (.int .i64 s)) ∧ W.cell? ⟨n, 0, none⟩ = some (.int .i64 place) ∧ Kp no w W) ((w.alloc (.cells #[.int .i64 place] 3)).alloc (.cells #[.int .i64 mode, .int .i64 p, .int .i64 s] 65)) := by
    have e : n + 1 = (w.alloc (.cells #[.int .i64 place] 3)).heap.size := by rw [World.size_alloc, hn]
    have hb : ((w.alloc (.cells #[.int .i64 place] 3)).alloc (.cells #[.int .i64 mode, .int .i64 p, .int .i64 s] 65)).heap[n]? = some (.cells #[.int .i64 place] 3) := blk_alloc (by rw [← hn]; exact blk_new _ _) _
    refine ⟨hb, ?_, blk_cell hb 0 _ rfl, ((Kp.refl no w).alloc _).alloc _⟩
    rw [e]
    exact three_blk (blk_new _ _)
  generalize World.alloc _ _ = W0 at hS ⊢
  have hS' := Lib.hid hS
  have hn' := Lib.hid hn
  have hw1 : IntKind.i64.wrap (r - 1) = r - 1 := IntWalk.i64_in _ (by omega)
  clear hS hn
  refine wp_region_held_drew (S := (fun W => W.heap[n]? = some (.cells #[.int .i64 place] 3) ∧ (W.cell? ⟨n + 1, 0, none⟩ = some (.int .i64 mode) ∧ W.cell? ⟨n + 1, 1, none⟩ = some (.int .i64 p) ∧ W.cell? ⟨n + 1, 2, none⟩ = some (.int .i64 s)) ∧ W.cell? ⟨n, 0, none⟩ = some (.int .i64 place) ∧ Kp no w W)) (by kernel_rfl) ⟨hS'.out.1, hS'.out.2.1, hS'.out.2.2.1, hS'.out.2.2.2.drew⟩ (fun hHeld => ?_)
  refine takeL (i := 0) rfl (by kernel_rfl) (by kernel_rfl) (by kernel_rfl) (fun _ _ _ _ h => h) hHeld ?_ (Or.inl ⟨by rfl, ?_⟩) ?_
  rotate_left
  · intro W hW
    (try dsimp only at hW)
    first | (go_simp; done) | (go_simp; with_reducible rfl)
  simp only [Act.put, List.setIfInBounds_toArray, List.set_cons_zero, List.set_cons_succ]
  refine takeL (i := 1) rfl (by kernel_rfl) (by kernel_rfl) (by kernel_rfl) (fun _ _ _ _ h => h) hHeld ?_ (Or.inl ⟨by rfl, ?_⟩) ?_
  rotate_left
  · intro W hW
    (try dsimp only at hW)
    first | (go_simp; done) | (go_simp; with_reducible rfl)
  simp only [Act.put, List.setIfInBounds_toArray, List.set_cons_zero, List.set_cons_succ]
  refine takeL (i := 2) rfl (by kernel_rfl) (by kernel_rfl) (by kernel_rfl) (fun _ _ _ _ h => h) hHeld ?_ (Or.inl ⟨by rfl, ?_⟩) ?_
  rotate_left
  · intro W hW
    (try dsimp only at hW)
    first | (go_simp; done) | (go_simp; with_reducible rfl)
  simp only [Act.put, List.setIfInBounds_toArray, List.set_cons_zero, List.set_cons_succ]
  refine takeL (i := 3) rfl (by kernel_rfl) (by kernel_rfl) (by kernel_rfl) (fun _ _ _ _ h => h) hHeld ?_ (Or.inl ⟨by rfl, ?_⟩) ?_
  rotate_left
  · intro W hW
    (try dsimp only at hW)
    first | (go_simp; done) | (go_simp; with_reducible rfl)
  simp only [Act.put, List.setIfInBounds_toArray, List.set_cons_zero, List.set_cons_succ]
  refine callL (i := 4) rfl (by kernel_rfl) (fun K hK => ?_)
  go_simp
  refine (hR.out _).mono ?_
  rintro e w' ⟨rfl, hk⟩
  have hH3 := And.intro (hk.at hHeld.1 (fun h => h)) (And.intro (And.intro (hk.cell hHeld.2.1.1 (fun h => h)) (And.intro (hk.cell hHeld.2.1.2.1 (fun h => h)) (hk.cell hHeld.2.1.2.2 (fun h => h)))) (And.intro (hk.cell hHeld.2.2.1 (fun h => h)) (hHeld.2.2.2.trans hk)))
  refine hK.out _ _ hH3 (fun hHeld2 => ?_)
  clear hK hHeld hH3 hk
  have hHeld := hHeld2
  clear hHeld2
  try simp only [Act.put, List.setIfInBounds_toArray, List.set_cons_zero, List.set_cons_succ]
  refine takeL (i := 5) rfl (by kernel_rfl) (by kernel_rfl) (by kernel_rfl) (fun _ _ _ _ h => h) hHeld ?_ (Or.inl ⟨by rfl, ?_⟩) ?_
  rotate_left
  · intro W hW
    (try dsimp only at hW)
    first | (go_simp; done) | (go_simp; with_reducible rfl)
  simp only [Act.put, List.setIfInBounds_toArray, List.set_cons_zero, List.set_cons_succ]
  refine callL (i := 6) rfl (by kernel_rfl) (fun K hK => ?_)
  go_simp
  refine (hM.out _).mono ?_
  rintro e w' ⟨rfl, hk⟩
  have hH3 := And.intro (hk.at hHeld.1 (fun h => h)) (And.intro (And.intro (hk.cell hHeld.2.1.1 (fun h => h)) (And.intro (hk.cell hHeld.2.1.2.1 (fun h => h)) (hk.cell hHeld.2.1.2.2 (fun h => h)))) (And.intro (hk.cell hHeld.2.2.1 (fun h => h)) (hHeld.2.2.2.trans hk)))
  refine hK.out _ _ hH3 (fun hHeld2 => ?_)
  clear hK hHeld hH3 hk
  have hHeld := hHeld2
  clear hHeld2
  try simp only [Act.put, List.setIfInBounds_toArray, List.set_cons_zero, List.set_cons_succ]
  refine takeL (i := 7) rfl (by kernel_rfl) (by kernel_rfl) (by kernel_rfl) (fun _ _ _ _ h => h) hHeld ?_ (Or.inl ⟨by rfl, ?_⟩) ?_
  rotate_left
  · intro W hW
    (try dsimp only at hW)
    first | (go_simp; done) | (go_simp; with_reducible rfl)
  simp only [Act.put, List.setIfInBounds_toArray, List.set_cons_zero, List.set_cons_succ]
  refine wpAnyH_done (by kernel_rfl) ?_ _
  clear hw1
  by_cases hE0 : E = 0
  · have hE1 : (E == 0) = true := by simp [hE0]
    have hE2 : (E != 0) = false := by simp [hE0]
    have hC := Lib.hid (hSo.out hE0)
    have hE0' := Lib.hid hE0
    obtain ⟨hb, ⟨c0, c1, c2⟩, c3, hk0⟩ := hHeld
    have hb' := Lib.hid hb
    have hk0' := Lib.hid hk0
    clear hE0 hb hk0
    go_wp2_with fail
    refine (hC.out _ hb'.out (blk_lt hb'.out)).mono ?_
    rintro e w2 ⟨v, rfl, ho, hk⟩
    have ho' := Lib.hid ho
    have hk' := Lib.hid hk
    have hw2 := hk0'.out.size
    clear ho hk
    go_wp2_with fail
    go_ret2
    exact ⟨v, (by show Ending.returned (.tuple #[v, .int .i64 0]) = _; rw [hE0'.out]), ho'.out.mono (by have := hn'.out; omega), hk0'.out.trans hk'.out⟩
  · have hE1 : (E == 0) = false := by simp [hE0]
    have hE2 : (E != 0) = true := by simp [hE0]
    have hL := Lib.hid (hnil.out hE0)
    obtain ⟨hb, ⟨c0, c1, c2⟩, c3, hk0⟩ := hHeld
    have hk0' := Lib.hid hk0
    clear hE0 hb hk0
    go_wp2_with fail
    go_ret2
    exact ⟨_, rfl, by rw [hL.out]; exact OwnK.nil _ _ _ _, hk0'.out⟩

theorem hearsF (place : Int) (n : Nat) : Asks 32 #[.pointer (some ⟨n, 0, none⟩)] (toB place) (fun W => W.heap[n]? = some (.cells #[.int .i64 place] 3)) := by
  intro W m hC
  have c0 := blk_cell hC 0 _ rfl
  have hlt := blk_lt hC
  unfold moveV toB
  clear hC
  show Calls _ _ #[.agg #[.int .i64 m.rd, .int .i64 m.fr, .int .i64 m.to, .int .i64 m.a, .int .i64 m.b], .pointer (some ⟨n, 0, none⟩)] _ _
  go_enter Try.func32, Try.ntmps32
  go_wp2
  go_ret
  exact ⟨rfl, (Kp.refl no _).alloc _⟩

set_option maxHeartbeats 2000000 in
theorem hears_any (mode p s place round : Int) (w : World) (h0 : -9223372036854775808 ≤ p) (h1 : p ≤ 9223372036854775807) :
    Calls Try.prog 23 #[.int .i64 mode, .int .i64 p, .int .i64 s, .int .i64 place, .int .i64 round] w fun e w' =>
    ∃ v, e = .returned (.tuple #[v, .int .i64 (askE mode p s place round)]) ∧ OwnK w' w.heap.size 31 5 v (askL (toB place) mode p s place round).length (mvs (askL (toB place) mode p s place round)) ∧ Kp no w w' := by
  obtain ⟨n, hn⟩ : ∃ n, w.heap.size = n := ⟨_, rfl⟩
  have hrl := roundsI_le mode p
  have hR := Lib.hid (fun w => roundsI_c mode p s w h0 h1)
  have hM := Lib.hid (fun w => may_c mode p s place round (roundsI mode p - 1) w)
  have hE := Lib.hid (show mayE mode p s place round (roundsI mode p - 1) = askE mode p s place round from rfl)
  have hSo : Hid (askE mode p s place round = 0 → ∀ W, W.heap[n]? = some (.cells #[.int .i64 place] 3) → n < W.heap.size → Calls Try.prog 27 #[.agg #[.int .i64 mode, .int .i64 p, .int .i64 s], .int .i64 round, .func (.func 32) #[] #[.pointer (some ⟨n, 0, none⟩)]] W fun e w' =>
      ∃ v, e = .returned v ∧ OwnK w' W.heap.size 31 5 v (askL (toB place) mode p s place round).length (mvs (askL (toB place) mode p s place round)) ∧ Kp no W w') := Lib.hid (fun h W hW hnW => by
    obtain ⟨hok, a6, a7, a8, a9⟩ := askE_ok h
    have hok2 := hok
    rw [roundsI_ok hok] at a9
    obtain ⟨a1, a2, a3, a4, a5⟩ := hok
    have := some_c mode.toNat p.toNat s.toNat round.toNat W (by omega) (by omega) (by omega) (by omega) (by omega) 32 #[.pointer (some ⟨n, 0, none⟩)] (toB place) (fun W => W.heap[n]? = some (.cells #[.int .i64 place] 3)) (hearsF place n)
      (enters_of Try.func32 (by kernel_rfl) rfl) (fun A B S hA hk hS => hk.at hA (fun h => by have := hS n h; omega)) hW
    rw [show (mode.toNat : Int) = mode by omega, show (p.toNat : Int) = p by omega, show (s.toNat : Int) = s by omega, show (round.toNat : Int) = round by omega] at this
    rw [askL, if_pos h]
    exact this)
  have hnil : Hid (askE mode p s place round ≠ 0 → askL (toB place) mode p s place round = []) := Lib.hid (fun h => by rw [askL, if_neg h])
  generalize askL (toB place) mode p s place round = L at *
  generalize hre : roundsI mode p = r at *
  rw [hE.out] at hM
  generalize askE mode p s place round = E at *
  have hre' := Lib.hid hre
  clear hre
  have hmf : ∀ (fn : Fn) (first cap : Array Value) (w : World), (Instr.makeFunc fn first cap).run Try.prog w = .ok (.func fn first cap) w := fun _ _ _ _ => rfl
  go_enter Try.func23, Try.ntmps23
  go_wp2_with fail
  have hS : (fun W => W.heap[n]? = some (.cells #[.int .i64 place] 3) ∧ (W.cell? ⟨n + 1, 0, none⟩ = some (.int .i64 mode) ∧ W.cell? ⟨n + 1, 1, none⟩ = some (.int .i64 p) ∧ W.cell? ⟨n + 1, 2, none⟩ = some (.int .i64 s)) ∧ W.cell? ⟨n, 0, none⟩ = some (.int .i64 place) ∧ Kp no w W) ((w.alloc (.cells #[.int .i64 place] 3)).alloc (.cells #[.int .i64 mode, .int .i64 p, .int .i64 s] 65)) := by
    have e : n + 1 = (w.alloc (.cells #[.int .i64 place] 3)).heap.size := by rw [World.size_alloc, hn]
    have hb : ((w.alloc (.cells #[.int .i64 place] 3)).alloc (.cells #[.int .i64 mode, .int .i64 p, .int .i64 s] 65)).heap[n]? = some (.cells #[.int .i64 place] 3) := blk_alloc (by rw [← hn]; exact blk_new _ _) _
    refine ⟨hb, ?_, blk_cell hb 0 _ rfl, ((Kp.refl no w).alloc _).alloc _⟩
    rw [e]
    exact three_blk (blk_new _ _)
  generalize World.alloc _ _ = W0 at hS ⊢
  have hS' := Lib.hid hS
  have hn' := Lib.hid hn
  have hw1 : IntKind.i64.wrap (r - 1) = r - 1 := IntWalk.i64_in _ (by omega)
  clear hS hn
  refine wp_region_held_drew (S := (fun W => W.heap[n]? = some (.cells #[.int .i64 place] 3) ∧ (W.cell? ⟨n + 1, 0, none⟩ = some (.int .i64 mode) ∧ W.cell? ⟨n + 1, 1, none⟩ = some (.int .i64 p) ∧ W.cell? ⟨n + 1, 2, none⟩ = some (.int .i64 s)) ∧ W.cell? ⟨n, 0, none⟩ = some (.int .i64 place) ∧ Kp no w W)) (by kernel_rfl) ⟨hS'.out.1, hS'.out.2.1, hS'.out.2.2.1, hS'.out.2.2.2.drew⟩ (fun hHeld => ?_)
  refine takeL (i := 0) rfl (by kernel_rfl) (by kernel_rfl) (by kernel_rfl) (fun _ _ _ _ h => h) hHeld ?_ (Or.inl ⟨by rfl, ?_⟩) ?_
  rotate_left
  · intro W hW
    (try dsimp only at hW)
    first | (go_simp; done) | (go_simp; with_reducible rfl)
  simp only [Act.put, List.setIfInBounds_toArray, List.set_cons_zero, List.set_cons_succ]
  refine takeL (i := 1) rfl (by kernel_rfl) (by kernel_rfl) (by kernel_rfl) (fun _ _ _ _ h => h) hHeld ?_ (Or.inl ⟨by rfl, ?_⟩) ?_
  rotate_left
  · intro W hW
    (try dsimp only at hW)
    first | (go_simp; done) | (go_simp; with_reducible rfl)
  simp only [Act.put, List.setIfInBounds_toArray, List.set_cons_zero, List.set_cons_succ]
  refine takeL (i := 2) rfl (by kernel_rfl) (by kernel_rfl) (by kernel_rfl) (fun _ _ _ _ h => h) hHeld ?_ (Or.inl ⟨by rfl, ?_⟩) ?_
  rotate_left
  · intro W hW
    (try dsimp only at hW)
    first | (go_simp; done) | (go_simp; with_reducible rfl)
  simp only [Act.put, List.setIfInBounds_toArray, List.set_cons_zero, List.set_cons_succ]
  refine takeL (i := 3) rfl (by kernel_rfl) (by kernel_rfl) (by kernel_rfl) (fun _ _ _ _ h => h) hHeld ?_ (Or.inl ⟨by rfl, ?_⟩) ?_
  rotate_left
  · intro W hW
    (try dsimp only at hW)
    first | (go_simp; done) | (go_simp; with_reducible rfl)
  simp only [Act.put, List.setIfInBounds_toArray, List.set_cons_zero, List.set_cons_succ]
  refine callL (i := 4) rfl (by kernel_rfl) (fun K hK => ?_)
  go_simp
  refine (hR.out _).mono ?_
  rintro e w' ⟨rfl, hk⟩
  have hH3 := And.intro (hk.at hHeld.1 (fun h => h)) (And.intro (And.intro (hk.cell hHeld.2.1.1 (fun h => h)) (And.intro (hk.cell hHeld.2.1.2.1 (fun h => h)) (hk.cell hHeld.2.1.2.2 (fun h => h)))) (And.intro (hk.cell hHeld.2.2.1 (fun h => h)) (hHeld.2.2.2.trans hk)))
  refine hK.out _ _ hH3 (fun hHeld2 => ?_)
  clear hK hHeld hH3 hk
  have hHeld := hHeld2
  clear hHeld2
  try simp only [Act.put, List.setIfInBounds_toArray, List.set_cons_zero, List.set_cons_succ]
  refine takeL (i := 5) rfl (by kernel_rfl) (by kernel_rfl) (by kernel_rfl) (fun _ _ _ _ h => h) hHeld ?_ (Or.inl ⟨by rfl, ?_⟩) ?_
  rotate_left
  · intro W hW
    (try dsimp only at hW)
    first | (go_simp; done) | (go_simp; with_reducible rfl)
  simp only [Act.put, List.setIfInBounds_toArray, List.set_cons_zero, List.set_cons_succ]
  refine callL (i := 6) rfl (by kernel_rfl) (fun K hK => ?_)
  go_simp
  refine (hM.out _).mono ?_
  rintro e w' ⟨rfl, hk⟩
  have hH3 := And.intro (hk.at hHeld.1 (fun h => h)) (And.intro (And.intro (hk.cell hHeld.2.1.1 (fun h => h)) (And.intro (hk.cell hHeld.2.1.2.1 (fun h => h)) (hk.cell hHeld.2.1.2.2 (fun h => h)))) (And.intro (hk.cell hHeld.2.2.1 (fun h => h)) (hHeld.2.2.2.trans hk)))
  refine hK.out _ _ hH3 (fun hHeld2 => ?_)
  clear hK hHeld hH3 hk
  have hHeld := hHeld2
  clear hHeld2
  try simp only [Act.put, List.setIfInBounds_toArray, List.set_cons_zero, List.set_cons_succ]
  refine takeL (i := 7) rfl (by kernel_rfl) (by kernel_rfl) (by kernel_rfl) (fun _ _ _ _ h => h) hHeld ?_ (Or.inl ⟨by rfl, ?_⟩) ?_
  rotate_left
  · intro W hW
    (try dsimp only at hW)
    first | (go_simp; done) | (go_simp; with_reducible rfl)
  simp only [Act.put, List.setIfInBounds_toArray, List.set_cons_zero, List.set_cons_succ]
  refine wpAnyH_done (by kernel_rfl) ?_ _
  clear hw1
  by_cases hE0 : E = 0
  · have hE1 : (E == 0) = true := by simp [hE0]
    have hE2 : (E != 0) = false := by simp [hE0]
    have hC := Lib.hid (hSo.out hE0)
    have hE0' := Lib.hid hE0
    obtain ⟨hb, ⟨c0, c1, c2⟩, c3, hk0⟩ := hHeld
    have hb' := Lib.hid hb
    have hk0' := Lib.hid hk0
    clear hE0 hb hk0
    go_wp2_with fail
    refine (hC.out _ hb'.out (blk_lt hb'.out)).mono ?_
    rintro e w2 ⟨v, rfl, ho, hk⟩
    have ho' := Lib.hid ho
    have hk' := Lib.hid hk
    have hw2 := hk0'.out.size
    clear ho hk
    go_wp2_with fail
    go_ret2
    exact ⟨v, (by show Ending.returned (.tuple #[v, .int .i64 0]) = _; rw [hE0'.out]), ho'.out.mono (by have := hn'.out; omega), hk0'.out.trans hk'.out⟩
  · have hE1 : (E == 0) = false := by simp [hE0]
    have hE2 : (E != 0) = true := by simp [hE0]
    have hL := Lib.hid (hnil.out hE0)
    obtain ⟨hb, ⟨c0, c1, c2⟩, c3, hk0⟩ := hHeld
    have hk0' := Lib.hid hk0
    clear hE0 hb hk0
    go_wp2_with fail
    go_ret2
    exact ⟨_, rfl, by rw [hL.out]; exact OwnK.nil _ _ _ _, hk0'.out⟩
end Go.Proofs.Ytamhlmfcnnomgaa
