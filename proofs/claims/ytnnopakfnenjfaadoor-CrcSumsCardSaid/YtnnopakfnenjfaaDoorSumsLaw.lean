/- The walk of the law CrcSums. -/
import Derived.Test.YtnnopakfnenjfaaDoorParts
import Derived.Test.YtnnopakfnenjfaaDoorOrder
import Derived.Test.YtnnopakfnenjfaaDoorOpenArr
namespace Go.Proofs.YtnnopakfnenjfaaDoor
open Go.RowKit
set_option linter.unusedVariables false

theorem sums_long (a : Option Addr) (len cap : Nat) (x y n : Int) (w : World) (h5 : 5000 < (len : Int)) :
    Calls Tryd.prog 3 #[.slice a len cap, .agg #[.int .u32 x, .int .u32 y], .int .i64 n] w fun e w' => e = .returned (.bool true) ∧ Kp no w w' := by
  go_enter Tryd.func3, Tryd.ntmps3
  go_wp2_with fail
  go_ret
  exact ⟨rfl, (Kp.refl _ _).alloc _⟩

theorem sums_many (a : Option Addr) (len cap : Nat) (x y n : Int) (w : World) (h5 : ¬ 5000 < (len : Int)) (hn : 3000 < n) :
    Calls Tryd.prog 3 #[.slice a len cap, .agg #[.int .u32 x, .int .u32 y], .int .i64 n] w fun e w' => e = .returned (.bool true) ∧ Kp no w w' := by
  go_enter Tryd.func3, Tryd.ntmps3
  go_wp2_with fail
  go_ret
  exact ⟨rfl, (Kp.refl _ _).alloc _⟩

theorem both_any (x y : BitVec 32) (n : Int) (hn : n ≤ 3000) : ∃ v : Int, (∀ W, Tab W → Calls Tryd.prog 10 #[.int .u32 (U x), .int .u32 (U y), .int .i64 n] W fun e w' => e = .returned (.int .u32 v) ∧ Kp no W w') ∧
    (∀ W, Calls Tryd.prog 11 #[.int .u32 (U x), .int .u32 (U y), .int .i64 n] W fun e w' => e = .returned (.int .u32 v) ∧ W = w') := by
  by_cases h0 : n < 0
  · exact ⟨0, fun W _ => (both_neg x y n h0 W).mono fun e w' h => ⟨h.1, by rw [h.2]; exact Kp.refl _ _⟩, fun W => (refBoth_neg x y n h0 W).mono fun e w' h => ⟨h.1, h.2.symm⟩⟩
  · obtain ⟨k, rfl⟩ := Int.eq_ofNat_of_zero_le (show 0 ≤ n by omega)
    exact ⟨_, fun W hW => both_c x y k (by omega) W hW, fun W => refBoth_c x y k (by omega) W⟩

set_option maxRecDepth 100000 in
set_option maxHeartbeats 4000000 in
theorem sums_c (a : Option Addr) (len cap : Nat) (c : Nat → BitVec 8) (x y : BitVec 32) (n : Int) (w : World) (hm : ¬ 5000 < (len : Int)) (hn : n ≤ 3000) (ht : Tab w) (hc : Rd w a len fun i => .int .u8 (U (c i))) :
    Calls Tryd.prog 3 #[.slice a len cap, .agg #[.int .u32 (U x), .int .u32 (U y)], .int .i64 n] w fun e w' => e = .returned (.bool true) ∧ Kp no w w' := by
  obtain ⟨v, hB, hR⟩ := both_any x y n hn
  have hB' := Lib.hid hB
  have hR' := Lib.hid hR
  have hc' := Lib.hid hc
  have ht' := Lib.hid ht
  clear hc ht hB hR
  have hnn : ¬ 3000 < n := by omega
  go_enter Tryd.func3, Tryd.ntmps3
  go_wp2_with fail
  obtain ⟨m, hm'⟩ : ∃ m, w.heap.size = m := ⟨_, rfl⟩
  have hS : (fun W => W.cell? ⟨m, 0, none⟩ = some (.int .u32 (U x)) ∧ W.cell? ⟨m, 1, none⟩ = some (.int .u32 (U y)) ∧ Kp no w W) (w.alloc (.cells #[.int .u32 (U x), .int .u32 (U y)] 24)) := by
    rw [← hm']
    exact ⟨blk_cell (blk_new _ _) 0 _ rfl, blk_cell (blk_new _ _) 1 _ rfl, (Kp.refl no w).alloc _⟩
  have hms : m < (w.alloc (.cells #[.int .u32 (U x), .int .u32 (U y)] 24)).heap.size := by rw [World.size_alloc]; omega
  generalize w.alloc _ = W0 at hS hms ⊢
  rw [hm']
  have hS' := Lib.hid hS
  clear hS
  refine wp_region_held_drew (S := (fun W => W.cell? ⟨m, 0, none⟩ = some (.int .u32 (U x)) ∧ W.cell? ⟨m, 1, none⟩ = some (.int .u32 (U y)) ∧ Kp no w W)) (by kernel_rfl) ⟨hS'.out.1, hS'.out.2.1, hS'.out.2.2.drew⟩ (fun hHeld => ?_)
  refine takeL (i := 0) rfl (by kernel_rfl) (by kernel_rfl) (by kernel_rfl) (fun _ _ _ _ h => h) hHeld ?_ (Or.inl ⟨by rfl, ?_⟩) ?_
  rotate_left
  · intro W hW
    (try dsimp only at hW)
    first | (go_simp; done) | (go_simp; with_reducible rfl)
  simp only [Act.put, List.setIfInBounds_toArray, List.set_cons_zero, List.set_cons_succ]
  refine takeL (i := 2) rfl (by kernel_rfl) (by kernel_rfl) (by kernel_rfl) (fun _ _ _ _ h => h) hHeld ?_ (Or.inl ⟨by rfl, ?_⟩) ?_
  rotate_left
  · intro W hW
    (try dsimp only at hW)
    first | (go_simp; done) | (go_simp; with_reducible rfl)
  simp only [Act.put, List.setIfInBounds_toArray, List.set_cons_zero, List.set_cons_succ]
  refine callL (i := 1) rfl (by kernel_rfl) (fun K hK => ?_)
  go_simp
  refine (sum_c a len cap c _ (by omega) (Rd.no hc'.out hHeld.2.2)).mono ?_
  rintro e w' ⟨rfl, rfl⟩
  refine hK.out _ _ hHeld (fun hHeld2 => ?_)
  clear hK hHeld
  have hHeld := hHeld2
  clear hHeld2
  try simp only [Act.put, List.setIfInBounds_toArray, List.set_cons_zero, List.set_cons_succ]
  refine callL (i := 3) rfl (by kernel_rfl) (fun K hK => ?_)
  go_simp
  refine (refSum_c a len cap c _ (by omega) (Rd.no hc'.out hHeld.2.2)).mono ?_
  rintro e w' ⟨rfl, rfl⟩
  refine hK.out _ _ hHeld (fun hHeld2 => ?_)
  clear hK hHeld
  have hHeld := hHeld2
  clear hHeld2
  try simp only [Act.put, List.setIfInBounds_toArray, List.set_cons_zero, List.set_cons_succ]
  refine takeL (i := 4) rfl (by kernel_rfl) (by kernel_rfl) (by kernel_rfl) (fun _ _ _ _ h => h) hHeld ?_ (Or.inl ⟨by rfl, ?_⟩) ?_
  rotate_left
  · intro W hW
    (try dsimp only at hW)
    first | (go_simp; done) | (go_simp; with_reducible rfl)
  simp only [Act.put, List.setIfInBounds_toArray, List.set_cons_zero, List.set_cons_succ]
  refine takeL (i := 5) rfl (by kernel_rfl) (by kernel_rfl) (by kernel_rfl) (fun _ _ _ _ h => h) hHeld ?_ (Or.inl ⟨by rfl, ?_⟩) ?_
  rotate_left
  · intro W hW
    (try dsimp only at hW)
    first | (go_simp; done) | (go_simp; with_reducible rfl)
  simp only [Act.put, List.setIfInBounds_toArray, List.set_cons_zero, List.set_cons_succ]
  refine takeL (i := 6) rfl (by kernel_rfl) (by kernel_rfl) (by kernel_rfl) (fun _ _ _ _ h => h) hHeld ?_ (Or.inl ⟨by rfl, ?_⟩) ?_
  rotate_left
  · intro W hW
    (try dsimp only at hW)
    first | (go_simp; done) | (go_simp; with_reducible rfl)
  simp only [Act.put, List.setIfInBounds_toArray, List.set_cons_zero, List.set_cons_succ]
  refine takeL (i := 7) rfl (by kernel_rfl) (by kernel_rfl) (by kernel_rfl) (fun _ _ _ _ h => h) hHeld ?_ (Or.inl ⟨by rfl, ?_⟩) ?_
  rotate_left
  · intro W hW
    (try dsimp only at hW)
    first | (go_simp; done) | (go_simp; with_reducible rfl)
  simp only [Act.put, List.setIfInBounds_toArray, List.set_cons_zero, List.set_cons_succ]
  refine takeL (i := 8) rfl (by kernel_rfl) (by kernel_rfl) (by kernel_rfl) (fun _ _ _ _ h => h) hHeld ?_ (Or.inl ⟨by rfl, ?_⟩) ?_
  rotate_left
  · intro W hW
    (try dsimp only at hW)
    first | (go_simp; done) | (go_simp; with_reducible rfl)
  simp only [Act.put, List.setIfInBounds_toArray, List.set_cons_zero, List.set_cons_succ]
  refine takeL (i := 10) rfl (by kernel_rfl) (by kernel_rfl) (by kernel_rfl) (fun _ _ _ _ h => h) hHeld ?_ (Or.inl ⟨by rfl, ?_⟩) ?_
  rotate_left
  · intro W hW
    (try dsimp only at hW)
    first | (go_simp; done) | (go_simp; with_reducible rfl)
  simp only [Act.put, List.setIfInBounds_toArray, List.set_cons_zero, List.set_cons_succ]
  refine takeL (i := 11) rfl (by kernel_rfl) (by kernel_rfl) (by kernel_rfl) (fun _ _ _ _ h => h) hHeld ?_ (Or.inl ⟨by rfl, ?_⟩) ?_
  rotate_left
  · intro W hW
    (try dsimp only at hW)
    first | (go_simp; done) | (go_simp; with_reducible rfl)
  simp only [Act.put, List.setIfInBounds_toArray, List.set_cons_zero, List.set_cons_succ]
  refine takeL (i := 12) rfl (by kernel_rfl) (by kernel_rfl) (by kernel_rfl) (fun _ _ _ _ h => h) hHeld ?_ (Or.inl ⟨by rfl, ?_⟩) ?_
  rotate_left
  · intro W hW
    (try dsimp only at hW)
    first | (go_simp; done) | (go_simp; with_reducible rfl)
  simp only [Act.put, List.setIfInBounds_toArray, List.set_cons_zero, List.set_cons_succ]
  refine callL (i := 9) rfl (by kernel_rfl) (fun K hK => ?_)
  go_simp
  refine (more_c x a len cap c _ (by omega) (Rd.no hc'.out hHeld.2.2)).mono ?_
  rintro e w' ⟨rfl, rfl⟩
  refine hK.out _ _ hHeld (fun hHeld2 => ?_)
  clear hK hHeld
  have hHeld := hHeld2
  clear hHeld2
  try simp only [Act.put, List.setIfInBounds_toArray, List.set_cons_zero, List.set_cons_succ]
  refine callL (i := 13) rfl (by kernel_rfl) (fun K hK => ?_)
  go_simp
  refine (refMore_c x a len cap c _ (by omega) (Rd.no hc'.out hHeld.2.2)).mono ?_
  rintro e w' ⟨rfl, rfl⟩
  refine hK.out _ _ hHeld (fun hHeld2 => ?_)
  clear hK hHeld
  have hHeld := hHeld2
  clear hHeld2
  try simp only [Act.put, List.setIfInBounds_toArray, List.set_cons_zero, List.set_cons_succ]
  refine takeL (i := 14) rfl (by kernel_rfl) (by kernel_rfl) (by kernel_rfl) (fun _ _ _ _ h => h) hHeld ?_ (Or.inl ⟨by rfl, ?_⟩) ?_
  rotate_left
  · intro W hW
    (try dsimp only at hW)
    first | (go_simp; done) | (go_simp; with_reducible rfl)
  simp only [Act.put, List.setIfInBounds_toArray, List.set_cons_zero, List.set_cons_succ]
  refine takeL (i := 15) rfl (by kernel_rfl) (by kernel_rfl) (by kernel_rfl) (fun _ _ _ _ h => h) hHeld ?_ (Or.inl ⟨by rfl, ?_⟩) ?_
  rotate_left
  · intro W hW
    (try dsimp only at hW)
    first | (go_simp; done) | (go_simp; with_reducible rfl)
  simp only [Act.put, List.setIfInBounds_toArray, List.set_cons_zero, List.set_cons_succ]
  refine takeL (i := 16) rfl (by kernel_rfl) (by kernel_rfl) (by kernel_rfl) (fun _ _ _ _ h => h) hHeld ?_ (Or.inl ⟨by rfl, ?_⟩) ?_
  rotate_left
  · intro W hW
    (try dsimp only at hW)
    first | (go_simp; done) | (go_simp; with_reducible rfl)
  simp only [Act.put, List.setIfInBounds_toArray, List.set_cons_zero, List.set_cons_succ]
  refine takeL (i := 17) rfl (by kernel_rfl) (by kernel_rfl) (by kernel_rfl) (fun _ _ _ _ h => h) hHeld ?_ (Or.inl ⟨by rfl, ?_⟩) ?_
  rotate_left
  · intro W hW
    (try dsimp only at hW)
    first | (go_simp; done) | (go_simp; with_reducible rfl)
  simp only [Act.put, List.setIfInBounds_toArray, List.set_cons_zero, List.set_cons_succ]
  refine takeL (i := 18) rfl (by kernel_rfl) (by kernel_rfl) (by kernel_rfl) (fun _ _ _ _ h => h) hHeld ?_ (Or.inl ⟨by rfl, ?_⟩) ?_
  rotate_left
  · intro W hW
    (try dsimp only at hW)
    first | (go_simp; done) | (go_simp; with_reducible rfl)
  simp only [Act.put, List.setIfInBounds_toArray, List.set_cons_zero, List.set_cons_succ]
  refine takeL (i := 19) rfl (by kernel_rfl) (by kernel_rfl) (by kernel_rfl) (fun _ _ _ _ h => h) hHeld ?_ (Or.inl ⟨by rfl, ?_⟩) ?_
  rotate_left
  · intro W hW
    (try dsimp only at hW)
    first | (go_simp; done) | (go_simp; with_reducible rfl)
  simp only [Act.put, List.setIfInBounds_toArray, List.set_cons_zero, List.set_cons_succ]
  refine takeL (i := 20) rfl (by kernel_rfl) (by kernel_rfl) (by kernel_rfl) (fun _ _ _ _ h => h) hHeld ?_ (Or.inl ⟨by rfl, ?_⟩) ?_
  rotate_left
  · intro W hW
    (try dsimp only at hW)
    first | (go_simp; done) | (go_simp; with_reducible rfl)
  simp only [Act.put, List.setIfInBounds_toArray, List.set_cons_zero, List.set_cons_succ]
  refine takeL (i := 21) rfl (by kernel_rfl) (by kernel_rfl) (by kernel_rfl) (fun _ _ _ _ h => h) hHeld ?_ (Or.inl ⟨by rfl, ?_⟩) ?_
  rotate_left
  · intro W hW
    (try dsimp only at hW)
    first | (go_simp; done) | (go_simp; with_reducible rfl)
  simp only [Act.put, List.setIfInBounds_toArray, List.set_cons_zero, List.set_cons_succ]
  refine takeL (i := 23) rfl (by kernel_rfl) (by kernel_rfl) (by kernel_rfl) (fun _ _ _ _ h => h) hHeld ?_ (Or.inl ⟨by rfl, ?_⟩) ?_
  rotate_left
  · intro W hW
    (try dsimp only at hW)
    first | (go_simp; done) | (go_simp; with_reducible rfl)
  simp only [Act.put, List.setIfInBounds_toArray, List.set_cons_zero, List.set_cons_succ]
  refine takeL (i := 24) rfl (by kernel_rfl) (by kernel_rfl) (by kernel_rfl) (fun _ _ _ _ h => h) hHeld ?_ (Or.inl ⟨by rfl, ?_⟩) ?_
  rotate_left
  · intro W hW
    (try dsimp only at hW)
    first | (go_simp; done) | (go_simp; with_reducible rfl)
  simp only [Act.put, List.setIfInBounds_toArray, List.set_cons_zero, List.set_cons_succ]
  refine takeL (i := 25) rfl (by kernel_rfl) (by kernel_rfl) (by kernel_rfl) (fun _ _ _ _ h => h) hHeld ?_ (Or.inl ⟨by rfl, ?_⟩) ?_
  rotate_left
  · intro W hW
    (try dsimp only at hW)
    first | (go_simp; done) | (go_simp; with_reducible rfl)
  simp only [Act.put, List.setIfInBounds_toArray, List.set_cons_zero, List.set_cons_succ]
  refine takeL (i := 26) rfl (by kernel_rfl) (by kernel_rfl) (by kernel_rfl) (fun _ _ _ _ h => h) hHeld ?_ (Or.inl ⟨by rfl, ?_⟩) ?_
  rotate_left
  · intro W hW
    (try dsimp only at hW)
    first | (go_simp; done) | (go_simp; with_reducible rfl)
  simp only [Act.put, List.setIfInBounds_toArray, List.set_cons_zero, List.set_cons_succ]
  refine takeL (i := 27) rfl (by kernel_rfl) (by kernel_rfl) (by kernel_rfl) (fun _ _ _ _ h => h) hHeld ?_ (Or.inl ⟨by rfl, ?_⟩) ?_
  rotate_left
  · intro W hW
    (try dsimp only at hW)
    first | (go_simp; done) | (go_simp; with_reducible rfl)
  simp only [Act.put, List.setIfInBounds_toArray, List.set_cons_zero, List.set_cons_succ]
  refine callL (i := 22) rfl (by kernel_rfl) (fun K hK => ?_)
  go_simp
  refine (hB'.out _ (ht'.out.no hHeld.2.2)).mono ?_
  rintro e w' ⟨rfl, hk⟩
  have hH3 : w'.cell? ⟨m, 0, none⟩ = some (.int .u32 (U x)) ∧ w'.cell? ⟨m, 1, none⟩ = some (.int .u32 (U y)) ∧ Kp no w w' := ⟨hk.cell hHeld.1 (fun h => h), hk.cell hHeld.2.1 (fun h => h), hHeld.2.2.trans hk⟩
  refine hK.out _ _ hH3 (fun hHeld2 => ?_)
  clear hK hHeld hH3 hk
  have hHeld := hHeld2
  clear hHeld2
  try simp only [Act.put, List.setIfInBounds_toArray, List.set_cons_zero, List.set_cons_succ]
  refine callL (i := 28) rfl (by kernel_rfl) (fun K hK => ?_)
  go_simp
  refine (hR'.out _).mono ?_
  rintro e w' ⟨rfl, rfl⟩
  refine hK.out _ _ hHeld (fun hHeld2 => ?_)
  clear hK hHeld
  have hHeld := hHeld2
  clear hHeld2
  try simp only [Act.put, List.setIfInBounds_toArray, List.set_cons_zero, List.set_cons_succ]
  refine takeL (i := 29) rfl (by kernel_rfl) (by kernel_rfl) (by kernel_rfl) (fun _ _ _ _ h => h) hHeld ?_ (Or.inl ⟨by rfl, ?_⟩) ?_
  rotate_left
  · intro W hW
    (try dsimp only at hW)
    first | (go_simp; done) | (go_simp; with_reducible rfl)
  simp only [Act.put, List.setIfInBounds_toArray, List.set_cons_zero, List.set_cons_succ]
  refine takeL (i := 30) rfl (by kernel_rfl) (by kernel_rfl) (by kernel_rfl) (fun _ _ _ _ h => h) hHeld ?_ (Or.inl ⟨by rfl, ?_⟩) ?_
  rotate_left
  · intro W hW
    (try dsimp only at hW)
    first | (go_simp; done) | (go_simp; with_reducible rfl)
  simp only [Act.put, List.setIfInBounds_toArray, List.set_cons_zero, List.set_cons_succ]
  refine takeL (i := 31) rfl (by kernel_rfl) (by kernel_rfl) (by kernel_rfl) (fun _ _ _ _ h => h) hHeld ?_ (Or.inl ⟨by rfl, ?_⟩) ?_
  rotate_left
  · intro W hW
    (try dsimp only at hW)
    first | (go_simp; done) | (go_simp; with_reducible rfl)
  simp only [Act.put, List.setIfInBounds_toArray, List.set_cons_zero, List.set_cons_succ]
  refine wpAnyH_done (by kernel_rfl) ?_ _
  have hkf := hHeld.2.2
  clear hHeld
  go_wp2_with fail
  go_ret
  exact ⟨rfl, hkf⟩

theorem pair_of {zs : List Int} {n : Nat} (h : zs.length = 2) : ∃ a b, zs = [a, b] := by
  match zs, h with
  | [a, b], _ => exact ⟨a, b, rfl⟩

theorem sums_w (a : Option Addr) (len cap : Nat) (z : List Int) (xy : List Int) (n : Int) (w : World) (h : IsRow .u8 w a len cap z) (hl : xy.length = 2) (hxy : ∀ z ∈ xy, (Lit.int .u32 z).wf = true) (_ : (Lit.int .i64 n).wf = true) (ht : Lib.TabIs Tryd.prog w "math/bits.deBruijn32tab" .u8 tz32) :
    Calls Tryd.prog 3 #[.slice a len cap, .agg (xy.map fun z => Value.int .u32 z).toArray, .int .i64 n] w fun e w' => e = .returned (.bool true) ∧ Below w.heap.size w w' := by
  obtain ⟨x, y, rfl⟩ := pair_of (n := 0) hl
  obtain ⟨c, hc⟩ := h.bytes
  by_cases h5 : 5000 < (len : Int)
  · exact (sums_long a len cap x y n w h5).mono fun e w' hh => ⟨hh.1, hh.2.self_below⟩
  · by_cases hn : 3000 < n
    · exact (sums_many a len cap x y n w h5 hn).mono fun e w' hh => ⟨hh.1, hh.2.self_below⟩
    · have b1 := wf_u32 (hxy x (by simp))
      have b2 := wf_u32 (hxy y (by simp))
      rw [← U_of 32 x b1.1 (by omega), ← U_of 32 y b2.1 (by omega)]
      exact (sums_c a len cap c _ _ n w h5 (by omega) (tab_of ht) hc).mono fun e w' hh => ⟨hh.1, hh.2.self_below⟩
end Go.Proofs.YtnnopakfnenjfaaDoor
