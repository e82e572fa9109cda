/- The walk of swap's Ends, over any numbers. -/
import Derived.Test.YtamhlmfcnnomgaaAll
import Derived.Test.YtamhlmfcnnomgaaOrderApp
namespace Go.Proofs.Ytamhlmfcnnomgaa
open Go.RowKit
set_option linter.unusedVariables false

def spCells (x : Nat × Nat) : List Value := [.int .i64 x.1, .int .i64 x.2]
def sps (l : List (Nat × Nat)) : List Value := l.flatMap spCells
theorem sps_len (l : List (Nat × Nat)) : (sps l).length = l.length * 2 := by
  induction l with
  | nil => rfl
  | cons m l ih => simp [sps, spCells] at *; omega
theorem sps_app (l k : List (Nat × Nat)) : sps (l ++ k) = sps l ++ sps k := by simp [sps]
theorem sps_one (l : List (Nat × Nat)) : ∀ u ∈ sps l, u.oneCell' = true := by
  intro u hu
  obtain ⟨m, _, h⟩ := List.mem_flatMap.1 hu
  simp [spCells] at h
  rcases h with rfl | rfl <;> rfl
theorem elemSp : ElemK Try.prog 33 29 2 (.agg #[.int .i64 0, .int .i64 0]) 16 :=
  ⟨Try.underlying33, by kernel_rfl, rfl, by omega⟩

def endsPre (mode p s k : Nat) : List (Nat × Nat) := (List.range k).map fun i => heldOf mode p s i (roundsOf mode p)
def endsOf (mode p s : Nat) : List (Nat × Nat) := endsPre mode p s p
theorem endsPre_succ (mode p s k : Nat) : endsPre mode p s (k + 1) = endsPre mode p s k ++ [heldOf mode p s k (roundsOf mode p)] := by simp [endsPre, List.range_succ]
theorem endsPre_len (mode p s k : Nat) : (endsPre mode p s k).length = k := by simp [endsPre]

theorem ends_no (mode p s : Int) (w : World) (h : ¬ okP mode p s) : Calls Try.prog 12 #[.int .i64 mode, .int .i64 p, .int .i64 s] w fun e w' => e = .returned (.tuple #[.slice none 0 0, .int .i64 260]) ∧ w = w' := by
  have hc := Lib.hid (fun w => check_c mode p s w)
  rw [ckE_no h] at hc
  clear h
  go_enter Try.func12, Try.ntmps12
  go_wp2_with fail
  refine (hc.out _).mono ?_
  rintro e w' ⟨rfl, rfl⟩
  go_wp2_with fail
  go_ret2
  exact ⟨rfl, rfl⟩

set_option maxHeartbeats 2000000 in
theorem ends_c (mode p s : Nat) (w : World) (hm : mode = 1 ∨ mode = 2) (h1 : 1 ≤ p) (h2 : p ≤ 64) (h3 : s ≤ 4096) : Calls Try.prog 12 #[.int .i64 mode, .int .i64 p, .int .i64 s] w fun e w' =>
    ∃ v, e = .returned (.tuple #[v, .int .i64 0]) ∧ OwnK w' w.heap.size 29 2 v (endsOf mode p s).length (sps (endsOf mode p s)) ∧ Kp no w w' := by
  have hok : okP mode p s := ⟨by omega, by omega, by omega, by omega, by omega⟩
  have hc := Lib.hid (fun w => check_c mode p s w)
  rw [ckE_ok hok] at hc
  have hr := Lib.hid (fun w => rounds_c mode p s w h1 h2)
  have hr7 := rounds_le mode p h1 h2
  have hhe := Lib.hid (fun (k : Nat) (hk : k < p) W => held_c mode p s k (roundsOf mode p) W hm h1 h2 h3 hk (by omega))
  have hall := Lib.hid (show endsOf mode p s = endsPre mode p s p from rfl)
  generalize endsOf mode p s = AL at *
  obtain ⟨n, hn⟩ : ∃ n, w.heap.size = n := ⟨_, rfl⟩
  have hsn' := Lib.hid (fun k => endsPre_succ mode p s k)
  generalize roundsOf mode p = Q at *
  clear hok
  go_enter Try.func12, Try.ntmps12
  go_wp2_with fail
  refine (hc.out _).mono ?_
  rintro e w' ⟨rfl, rfl⟩
  go_wp2_with fail
  have hB : (w.alloc (.cells #[.int .i64 mode, .int .i64 p, .int .i64 s] 65)).heap[n]? = some (.cells #[.int .i64 mode, .int .i64 p, .int .i64 s] 65) := by rw [← hn]; exact blk_new _ _
  have hK1 : Kp no w (w.alloc (.cells #[.int .i64 mode, .int .i64 p, .int .i64 s] 65)) := (Kp.refl no w).alloc _
  generalize w.alloc _ = w1 at hB hK1 ⊢
  have hn' := Lib.hid hn
  clear hn
  go_loopw [10, 24] (fun o i V => ∃ (k : Nat) (a : Option Addr) (cap : Nat), k ≤ p ∧ i = .int .i64 k ∧ o = .slice a k cap ∧ V.heap[n]? = some (.cells #[.int .i64 mode, .int .i64 p, .int .i64 s] 65) ∧
      OwnK V (n + 1) 29 2 (.slice a k cap) k (sps (endsPre mode p s k)) ∧ Kp no w V) (fun _ i _ => p - (intOf i).toNat)
  case atStart => exact ⟨0, none, 0, by omega, rfl, rfl, hB, OwnK.nil _ _ _ _, hK1⟩
  case round =>
    clear hB hK1 w1
    obtain ⟨k, a, cap, hk, rfl, rfl, i1, i2, i3⟩ := hrel
    by_cases hkR : k < p
    · have hh := Lib.hid (fun W => hhe.out k hkR W)
      have hsn := Lib.hid (hsn'.out k)
      generalize heldOf mode p s k Q = x at *
      obtain ⟨xa, xb⟩ := x
      generalize endsPre mode p s k = PR at *
      have i2' := Lib.hid i2
      have i3' := Lib.hid i3
      have i1' := Lib.hid i1
      clear i1 i2 i3
      go_wp2_with fail
      have o0 := Lib.hid (i2'.out.no (Kp.refl no wr).drew)
      refine wp_region_held_drew (S := (fun W => W.heap[n]? = some (.cells #[.int .i64 mode, .int .i64 p, .int .i64 s] 65) ∧ (W.cell? ⟨n, 0, none⟩ = some (.int .i64 mode) ∧ W.cell? ⟨n, 1, none⟩ = some (.int .i64 p) ∧ W.cell? ⟨n, 2, none⟩ = some (.int .i64 s)) ∧ Kp no w W)) (by kernel_rfl) ⟨i1'.out, three_blk i1'.out, i3'.out.drew⟩ (fun hHeld => ?_)
      refine takeL (i := 0) rfl (by kernel_rfl) (by kernel_rfl) (by kernel_rfl) (fun _ _ _ _ h => h) hHeld ?_ (Or.inl ⟨by rfl, ?_⟩) ?_
      rotate_left
      · intro W hW
        (try dsimp only at hW)
        first | (go_simp; done) | (go_simp; with_reducible rfl)
      simp only [Act.put, List.setIfInBounds_toArray, List.set_cons_zero, List.set_cons_succ]
      refine takeL (i := 1) rfl (by kernel_rfl) (by kernel_rfl) (by kernel_rfl) (fun _ _ _ _ h => h) hHeld ?_ (Or.inl ⟨by rfl, ?_⟩) ?_
      rotate_left
      · intro W hW
        (try dsimp only at hW)
        first | (go_simp; done) | (go_simp; with_reducible rfl)
      simp only [Act.put, List.setIfInBounds_toArray, List.set_cons_zero, List.set_cons_succ]
      refine takeL (i := 2) rfl (by kernel_rfl) (by kernel_rfl) (by kernel_rfl) (fun _ _ _ _ h => h) hHeld ?_ (Or.inl ⟨by rfl, ?_⟩) ?_
      rotate_left
      · intro W hW
        (try dsimp only at hW)
        first | (go_simp; done) | (go_simp; with_reducible rfl)
      simp only [Act.put, List.setIfInBounds_toArray, List.set_cons_zero, List.set_cons_succ]
      refine takeL (i := 3) rfl (by kernel_rfl) (by kernel_rfl) (by kernel_rfl) (fun _ _ _ _ h => h) hHeld ?_ (Or.inl ⟨by rfl, ?_⟩) ?_
      rotate_left
      · intro W hW
        (try dsimp only at hW)
        first | (go_simp; done) | (go_simp; with_reducible rfl)
      simp only [Act.put, List.setIfInBounds_toArray, List.set_cons_zero, List.set_cons_succ]
      refine callL (i := 4) rfl (by kernel_rfl) (fun K hK => ?_)
      go_simp
      refine (hr.out _).mono ?_
      rintro e w4 ⟨rfl, hk⟩
      have hH3 := And.intro (hk.at hHeld.1 (fun h => h)) (And.intro (And.intro (hk.cell hHeld.2.1.1 (fun h => h)) (And.intro (hk.cell hHeld.2.1.2.1 (fun h => h)) (hk.cell hHeld.2.1.2.2 (fun h => h)))) (hHeld.2.2.trans hk))
      have ow4 := Lib.hid (o0.out.no hk)
      refine hK.out _ _ hH3 (fun hHeld2 => ?_)
      clear hK hHeld hH3 hk
      have hHeld := hHeld2
      clear hHeld2
      try simp only [Act.put, List.setIfInBounds_toArray, List.set_cons_zero, List.set_cons_succ]
      refine callL (i := 5) rfl (by kernel_rfl) (fun K hK => ?_)
      go_simp
      refine (hh.out _).mono ?_
      rintro e w5 ⟨rfl, hk⟩
      have hH3 := And.intro (hk.at hHeld.1 (fun h => h)) (And.intro (And.intro (hk.cell hHeld.2.1.1 (fun h => h)) (And.intro (hk.cell hHeld.2.1.2.1 (fun h => h)) (hk.cell hHeld.2.1.2.2 (fun h => h)))) (hHeld.2.2.trans hk))
      have ow5 := Lib.hid (ow4.out.no hk)
      refine hK.out _ _ hH3 (fun hHeld2 => ?_)
      clear hK hHeld hH3 hk
      have hHeld := hHeld2
      clear hHeld2
      try simp only [Act.put, List.setIfInBounds_toArray, List.set_cons_zero, List.set_cons_succ]
      simp only [span]
      have hsz5 := hHeld.2.2.size
      have o5 := Lib.hid (ow5.out.no ((Kp.refl no w5).alloc (.cells #[.int .i64 xa, .int .i64 xb] 29)))
      refine callL (i := 6) rfl (by kernel_rfl) (fun K hK => ?_)
      go_simp
      have hk5 : Kp no w5 (w5.alloc (.cells #[.int .i64 xa, .int .i64 xb] 29)) := (Kp.refl no w5).alloc _
      have hH3 := And.intro (hk5.at hHeld.1 (fun h => h)) (And.intro (And.intro (hk5.cell hHeld.2.1.1 (fun h => h)) (And.intro (hk5.cell hHeld.2.1.2.1 (fun h => h)) (hk5.cell hHeld.2.1.2.2 (fun h => h)))) (hHeld.2.2.trans hk5))
      refine hK.out _ _ hH3 (fun hHeld2 => ?_)
      clear hK hHeld hH3
      have hHeld := hHeld2
      clear hHeld2
      try simp only [Act.put, List.setIfInBounds_toArray, List.set_cons_zero, List.set_cons_succ]
      have hw5 := hsz5
      rw [hn'.out] at hw5
      obtain ⟨v6, w6, hrun, ho6, hk6, hnil6⟩ := run_appK (P := Try.prog) (ty := 33) elemSp o5.out (by rw [World.size_alloc]; have := blk_lt (hHeld.1); rw [World.size_alloc] at this; omega) (ys := sps [(xa, xb)]) (m := 1) (c := 1) rfl (rd_newK w5 _ (sps [(xa, xb)])) (sps_one _) (by simp only [maxLen]; omega) (by omega) (fun h => (by cases h))
      obtain ⟨a6, cap6, rfl, -⟩ := ho6.slice
      have hb6 : ∀ g, (Value.slice a k cap).ownBlock = some g → g ≠ n := fun g hg => by have := (o5.out.block hg).1; omega
      have e1 := hk6.at hHeld.1 (fun h => hb6 _ h rfl)
      have hH3 := And.intro e1 (And.intro (three_blk e1) (hHeld.2.2.then hk6 (fun _ _ h => h) (fun g hg h => by have := (o5.out.block h).1; have := hn'.out; omega)))
      refine appL (i := 7) rfl (by kernel_rfl) rfl (.tmp 27) (.tmp 33) _ rfl (.slice a k cap) _ rfl rfl hrun hH3 (fun hHeld2 => ?_)
      clear hHeld hH3 hrun e1
      have hHeld := hHeld2
      have ho6' := Lib.hid ho6
      clear hHeld2 ho6 hnil6 hk6
      try simp only [Act.put, List.setIfInBounds_toArray, List.set_cons_zero, List.set_cons_succ]
      refine takeL (i := 8) rfl (by kernel_rfl) (by kernel_rfl) (by kernel_rfl) (fun _ _ _ _ h => h) hHeld ?_ (Or.inl ⟨by rfl, ?_⟩) ?_
      rotate_left
      · intro W hW
        (try dsimp only at hW)
        first | (go_simp; done) | (go_simp; with_reducible rfl)
      simp only [Act.put, List.setIfInBounds_toArray, List.set_cons_zero, List.set_cons_succ]
      refine wpAnyH_done (by kernel_rfl) ?_ _
      have hHeld' := Lib.hid hHeld
      clear hHeld
      go_wp2_with fail
      go_roundw
      case rel =>
        refine ⟨k + 1, a6, cap6, by omega, by go_num, rfl, hHeld'.out.1, ?_, hHeld'.out.2.2⟩
        rw [hsn.out, sps_app]
        exact ho6'.out
      case measure => (simp [intOf]; try omega)
    · obtain rfl : k = p := by omega
      rw [← hall.out] at i2
      have hlen := endsPre_len mode k s k
      have i2' := Lib.hid i2
      have i3' := Lib.hid i3
      clear i1 i2 i3
      go_wp2_with fail
      go_ret2
      refine ⟨_, rfl, ?_, i3'.out⟩
      have h9 := i2'.out.mono (show w.heap.size ≤ n + 1 by have := hn'.out; omega)
      have : AL.length = k := by rw [hall.out]; exact endsPre_len _ _ _ _
      rw [this]
      exact h9
end Go.Proofs.Ytamhlmfcnnomgaa
