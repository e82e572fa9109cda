/- crc.Both and the document's: 8 n steps of the first sum. -/
import Derived.Test.YtnnopakfnenjfaaDoorTwice
import Derived.Test.YtnnopakfnenjfaaDoorSum
import Derived.WalkMore
import Derived.Deep.WholeRow
namespace Go.Proofs.YtnnopakfnenjfaaDoor
open Go.RowKit Go.Shelf

theorem stpN_add (a b : Nat) (x : BitVec 32) : stpN (a + b) x = stpN a (stpN b x) := by
  induction a with
  | zero => simp [stpN]
  | succ a ih => rw [Nat.succ_add]; show stp _ = stp _; rw [ih]
theorem stpN_lin (n : Nat) : Lin (stpN n) := by
  induction n with
  | zero => intro x y; rfl
  | succ n ih => intro x y; show stp _ = stp _ ^^^ stp _; rw [ih, stp_xor]

def both (x y : BitVec 32) (n : Nat) : BitVec 32 := stpN (8 * n) x ^^^ y

theorem refBoth_neg (x y : BitVec 32) (n : Int) (h : n < 0) (w : World) : Calls Tryd.prog 11 #[.int .u32 (U x), .int .u32 (U y), .int .i64 n] w fun e w' =>
    e = .returned (.int .u32 0) ∧ w' = w := by
  go_enter Tryd.func11, Tryd.ntmps11
  go_wp2_with fail
  go_ret
  exact ⟨rfl, rfl⟩

set_option maxRecDepth 100000 in
theorem both_neg (x y : BitVec 32) (n : Int) (h : n < 0) (w : World) : Calls Tryd.prog 10 #[.int .u32 (U x), .int .u32 (U y), .int .i64 n] w fun e w' =>
    e = .returned (.int .u32 0) ∧ w' = w := by
  go_enter Tryd.func10, Tryd.ntmps10
  go_wp2_with fail
  go_step3
  go_wp2_with fail
  rw [Exit.noGoto_ret]
  go_ret
  exact ⟨rfl, rfl⟩

theorem refBoth_c (x y : BitVec 32) (n : Nat) (hn : n ≤ 9223372036854775807) (w : World) : Calls Tryd.prog 11 #[.int .u32 (U x), .int .u32 (U y), .int .i64 n] w fun e w' =>
    e = .returned (.int .u32 (U (both x y n))) ∧ w = w' := by
  go_enter Tryd.func11, Tryd.ntmps11
  go_wp2_with fail
  go_loop [0, 7] (fun f i => ∃ k : Nat, k ≤ n ∧ i = .int .i64 k ∧ f = .int .u32 (U (stpN (8 * k) x))) (fun _ i => n - (intOf i).toNat)
  case atStart => exact ⟨0, by omega, rfl, rfl⟩
  case round =>
    obtain ⟨k, hk, rfl, rfl⟩ := hrel
    by_cases hkt : k < n
    · go_wp2_with fail
      go_loop [0, 8] (fun f i => ∃ j : Nat, j ≤ 8 ∧ i = .int .i64 j ∧ f = .int .u32 (U (stpN (8 * k + j) x))) (fun _ i => 8 - (intOf i).toNat)
      case atStart => exact ⟨0, by omega, rfl, rfl⟩
      case round =>
        obtain ⟨j, hj, rfl, rfl⟩ := hrel
        by_cases hjt : j < 8
        · go_wp2_with fail
          refine (shift_c _ _).mono ?_
          rintro e w' ⟨rfl, rfl⟩
          go_wp2_with fail
          go_round
          case rel => exact ⟨j + 1, by omega, by go_num, rfl⟩
          case measure => simp [intOf]; omega
        · obtain rfl : j = 8 := by omega
          go_wp2_with fail
          go_round
          case rel => exact ⟨k + 1, by omega, by go_num, rfl⟩
          case measure => simp [intOf]; omega
    · obtain rfl : k = n := by omega
      go_wp2_with fail
      go_ret
      exact ⟨ret_i (xor32 _ _), rfl⟩

theorem pow_U : ∀ k : Nat, k < 32 → (2 : Int) ^ k % 4294967296 = U (1#32 <<< k) := by
  have h : ∀ k : Fin 32, (2 : Int) ^ k.val % 4294967296 = U (1#32 <<< k.val) := by decide +kernel
  exact fun k hk => h ⟨k, hk⟩

theorem set_set (cs : Array Value) (k : Nat) (u v : Value) : (cs.setIfInBounds k u).setIfInBounds k v = cs.setIfInBounds k v := by
  apply Array.ext_getElem?
  intro i
  simp only [Array.getElem?_setIfInBounds]
  by_cases h : k = i <;> simp [h]

theorem Kp.setRow {S : Nat → Prop} {a w : World} (h : Kp S a w) {g : Nat} (hp : S g ∨ a.heap.size ≤ g) (cs : Array Value) : Kp S a (w.setRow g cs) :=
  ⟨h.os, h.tape, h.output, by rw [size_setRow]; exact h.size, fun k hk hn => by
    have hne : k ≠ g := by rintro rfl; rcases hp with hp | hp; exact hn hp; omega
    rw [setRow_other _ _ _ _ hne]; exact h.block k hk hn⟩

theorem stpN_twice (M : Nat) : (tabOf fun x => stpN M (stpN M x)) = tabOf (stpN (2 * M)) := by
  congr 1; funext x; rw [Nat.two_mul, stpN_add]

theorem stpN_even (M r : Nat) (x : BitVec 32) (h : r % 2 = 0) : stpN (2 * M * (r / 2)) x = stpN (M * r) x := by
  have h2 : r = 2 * (r / 2) := by omega
  have : M * r = 2 * M * (r / 2) := by
    conv => lhs; rw [h2]
    rw [← Nat.mul_assoc, Nat.mul_comm M 2]
  rw [this]
theorem stpN_odd (M r : Nat) (x : BitVec 32) (h : ¬ r % 2 = 0) : stpN (2 * M * (r / 2)) (stpN M x) = stpN (M * r) x := by
  have h2 : r = 2 * (r / 2) + 1 := by omega
  have : M * r = 2 * M * (r / 2) + M := by
    conv => lhs; rw [h2]
    rw [Nat.mul_add, ← Nat.mul_assoc, Nat.mul_comm M 2, Nat.mul_one]
  rw [this, stpN_add]

set_option maxRecDepth 100000 in
set_option maxHeartbeats 2000000 in
theorem both_c (x y : BitVec 32) (n : Nat) (hn : n ≤ 9223372036854775807) (w : World) (ht : Tab w) : Calls Tryd.prog 10 #[.int .u32 (U x), .int .u32 (U y), .int .i64 n] w fun e w' =>
    e = .returned (.int .u32 (U (both x y n))) ∧ Kp no w w' := by
  have ht' := Lib.hid ht
  clear ht
  go_enter Tryd.func10, Tryd.ntmps10
  go_wp2_with fail
  go_step3
  go_wp2_with fail
  obtain ⟨m, hm⟩ : ∃ m, w.heap.size = m := ⟨_, rfl⟩
  generalize hW : w.alloc _ = W
  rw [hm]
  have hk : Kp no w W := by rw [← hW]; exact (Kp.refl no w).alloc _
  have hR : W.heap[m]? = some (.cells (half 0 (tabV (stpN 8)) fun _ => .int .u32 0) 38) := by
    rw [← hW, ← hm]; exact blk_new _ _
  have htW : Tab W := ht'.out.no hk
  have h0m : 0 < m := by rw [← hm]; exact ht'.out.lt
  clear hW
  go_loopw [8, 12] (fun _ i V => ∃ k : Nat, k ≤ 32 ∧ i = .int .i64 k ∧ V.heap[m]? = some (.cells (half k (tabV (stpN 8)) fun _ => .int .u32 0) 38) ∧ Kp no w V) (fun _ i _ => 32 - (intOf i).toNat)
  case atStart => exact ⟨0, by omega, rfl, hR, hk⟩
  case round =>
    clear hR htW hk
    obtain ⟨k, hk32, rfl, i3, i6⟩ := hrel
    by_cases hkt : k < 32
    · have cR : wr.cell? ⟨m, k, none⟩ = some ((half k (tabV (stpN 8)) fun _ => .int .u32 0).getD k undef) := blk_cell i3 k _ (by simp [half, hkt])
      have fR : wr.frozen? ⟨m, k, none⟩ = false := blk_frozen i3 k
      have i3' := Lib.hid i3
      clear i3
      go_wp2_with fail
      rw [pow_U k hkt]
      have j3 : (wr.setCell ⟨m, k, none⟩ (.int .u32 (U (1#32 <<< k)))).heap[m]? = some (.cells ((half k (tabV (stpN 8)) fun _ => .int .u32 0).setIfInBounds k (.int .u32 (U (stpN 0 (1#32 <<< k))))) 38) := blk_setCell i3'.out k _
      have j6 : Kp no w (wr.setCell ⟨m, k, none⟩ (.int .u32 (U (1#32 <<< k)))) := i6.then (Kp.setCell (p := ⟨m, k, none⟩) (Kp.refl (fun j => j = m) wr) (.inl rfl) _) (fun _ _ h => h.elim) (fun j hj h => by omega)
      generalize (wr.setCell ⟨m, k, none⟩ (.int .u32 (U (1#32 <<< k)))) = V at j3 j6 ⊢
      rw [show decide ((k : Int) < 32) = true from by simp; omega]
      go_loopw [19] (fun i V => ∃ j : Nat, j ≤ 8 ∧ i = .int .i64 j ∧ V.heap[m]? = some (.cells ((half k (tabV (stpN 8)) fun _ => .int .u32 0).setIfInBounds k (.int .u32 (U (stpN j (1#32 <<< k))))) 38) ∧ Kp no w V) (fun i _ => 8 - (intOf i).toNat)
      case atStart => exact ⟨0, by omega, rfl, j3, j6⟩
      case round =>
        clear j3 j6 cR fR i3'
        obtain ⟨j, hj8, rfl, l3, l6⟩ := hrel
        by_cases hjt : j < 8
        · have cR : wr.cell? ⟨m, k, none⟩ = some (.int .u32 (U (stpN j (1#32 <<< k)))) := blk_cell l3 k _ (by simp [half, hkt])
          have fR : wr.frozen? ⟨m, k, none⟩ = false := blk_frozen l3 k
          have l3' := Lib.hid l3
          clear l3
          go_wp2_with fail
          refine (step_c _ _).mono ?_
          rintro e V2 ⟨rfl, rfl⟩
          go_wp2_with fail
          go_roundw
          case rel =>
            refine ⟨j + 1, by omega, by go_num, ?_, l6.then (Kp.setCell (p := ⟨m, k, none⟩) (Kp.refl (fun j => j = m) _) (.inl rfl) _) (fun _ _ h => h.elim) (fun j hj h => by omega)⟩
            rw [blk_setCell l3'.out, set_set]; rfl
          case measure => simp [intOf]; omega
        · obtain rfl : j = 8 := by omega
          have l3' := Lib.hid l3
          clear l3
          go_wp2_with fail
          go_roundw
          case rel =>
            refine ⟨k + 1, by omega, by go_num, ?_, l6⟩
            rw [l3'.out, ← half_set k hkt]; rfl
          case measure => simp [intOf]; omega
    · obtain rfl : k = 32 := by omega
      rw [half_all] at i3
      have hTw : Tab wr := ht'.out.no i6
      go_wp2_with fail
      go_step3
      go_wp2_with fail
      rw [show ((32 : Nat) : Int) = 32 from rfl]
      go_loopw [0, 2] (fun f i V => ∃ (M r : Nat) (z : BitVec 32), r ≤ n ∧ f = .int .u32 (U z) ∧ i = .int .i64 r ∧ V.heap[m]? = some (.cells (tabOf (stpN M)) 38) ∧ Kp no w V ∧ stpN (M * r) z = stpN (8 * n) x) (fun _ i _ => (intOf i).toNat)
      case atStart => exact ⟨8, n, x, by omega, rfl, rfl, i3, i6, rfl⟩
      case round =>
        clear i3 i6 hTw
        obtain ⟨M, r, z, hr, rfl, rfl, l3, l6, hz⟩ := hrel
        have hTw : Tab wr := ht'.out.no l6
        have hms : m < wr.heap.size := blk_lt l3
        have l3' := Lib.hid l3
        have hz' := Lib.hid hz
        have hTw' := Lib.hid hTw
        clear l3 hz hTw
        by_cases hrt : 0 < r
        · by_cases hev : r % 2 = 0
          · have hev1 : ((r : Int) % 2 == 0) = true := by simp; omega
            go_wp2_with (first
              | refine wpList_load_row rfl 38 _ rfl m rfl 38 (tabOf (stpN M)) (0, 0) _ l3'.out Tryd.underlying38 rfl (tab_info _) ?_
              | (refine wpList_store_row rfl 38 _ _ rfl wr.heap.size (tabOf (stpN M)) rfl rfl 38 _ (blk_new _ _) (tab_info _) (by rw [tabOf_size]; rfl) (tab_one _) ?_; rw [World.setRow_alloc_new]))
            have hTa : Tab (wr.alloc (.cells (tabOf (stpN M)) 38)) := hTw'.out.no ((Kp.refl no wr).alloc _)
            have hba := blk_new wr (.cells (tabOf (stpN M)) 38)
            have hka : Kp no w (wr.alloc (.cells (tabOf (stpN M)) 38)) := l6.alloc _
            have hma : (wr.alloc (.cells (tabOf (stpN M)) 38)).heap[m]? = some (.cells (tabOf (stpN M)) 38) := blk_alloc l3'.out _
            refine (twice_c (stpN M) (stpN_lin M) wr.heap.size _ hTa _ hba).mono ?_
            rintro e V ⟨rfl, hV⟩
            have hm1 := hV.at hma (fun h => h)
            have hk1 := hka.trans hV
            rw [stpN_twice]
            have hm1' := Lib.hid hm1
            clear hTa hba hka hma hm1 hV
            go_wp2_with (refine wpList_store_row rfl 38 _ _ rfl m (tabOf (stpN (2 * M))) rfl rfl 38 _ hm1'.out (tab_info _) (by rw [tabOf_size]; rfl) (tab_one _) ?_)
            go_roundw
            case rel =>
              refine ⟨2 * M, r / 2, z, by omega, rfl, by go_num, ?_, hk1.setRow (.inr (by omega)) _, ?_⟩
              · exact setRow_heap _ _ _ _ _ _ hm1'.out
              · rw [stpN_even _ _ _ hev]; exact hz'.out
            case measure => simp [intOf]; omega
          · have hod1 : ((r : Int) % 2 == 0) = false := by simp; omega
            go_wp2_with (first
              | refine wpList_load_row rfl 38 _ rfl m rfl 38 (tabOf (stpN M)) (0, 0) _ l3'.out Tryd.underlying38 rfl (tab_info _) ?_
              | (refine wpList_store_row rfl 38 _ _ rfl wr.heap.size (tabOf (stpN M)) rfl rfl 38 _ (blk_new _ _) (tab_info _) (by rw [tabOf_size]; rfl) (tab_one _) ?_; rw [World.setRow_alloc_new]))
            have hTa : Tab (wr.alloc (.cells (tabOf (stpN M)) 38)) := hTw'.out.no ((Kp.refl no wr).alloc _)
            have hka : Kp no w (wr.alloc (.cells (tabOf (stpN M)) 38)) := l6.alloc _
            have hma : (wr.alloc (.cells (tabOf (stpN M)) 38)).heap[m]? = some (.cells (tabOf (stpN M)) 38) := blk_alloc l3'.out _
            refine (of_c (stpN M) (stpN_lin M) z m _ hTa _ hma).mono ?_
            rintro e V ⟨rfl, hV⟩
            have hm1 := hV.at hma (fun h => h)
            have hk1 := hka.trans hV
            have hT1 := hTa.no hV
            have hm1' := Lib.hid hm1
            have hT1' := Lib.hid hT1
            clear hTa hka hma hm1 hV hT1
            go_wp2_with fail
            refine (twice_c (stpN M) (stpN_lin M) m _ hT1'.out _ hm1'.out).mono ?_
            rintro e V2 ⟨rfl, hV⟩
            have hm2 := hV.at hm1'.out (fun h => h)
            have hk2 := hk1.trans hV
            have hm2' := Lib.hid hm2
            clear hm2 hV
            rw [stpN_twice]
            go_wp2_with (refine wpList_store_row rfl 38 _ _ rfl m (tabOf (stpN (2 * M))) rfl rfl 38 _ hm2'.out (tab_info _) (by rw [tabOf_size]; rfl) (tab_one _) ?_)
            go_roundw
            case rel =>
              refine ⟨2 * M, r / 2, stpN M z, by omega, rfl, by go_num, ?_, hk2.setRow (.inr (by omega)) _, ?_⟩
              · exact setRow_heap _ _ _ _ _ _ hm2'.out
              · rw [stpN_odd _ _ _ hev]; exact hz'.out
            case measure => simp [intOf]; omega
        · obtain rfl : r = 0 := by omega
          go_wp2_with fail
          rw [Exit.noGoto_ret]
          go_ret
          have hz2 : stpN (M * 0) z = z := by rw [Nat.mul_zero]; rfl
          rw [hz2] at hz'
          rw [hz'.out]
          exact ⟨ret_i (xor32 _ _), l6⟩
end Go.Proofs.YtnnopakfnenjfaaDoor
