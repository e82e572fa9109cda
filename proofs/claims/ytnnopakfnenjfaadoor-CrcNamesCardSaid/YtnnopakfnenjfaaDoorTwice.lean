/- table.twice; crc.Both. -/
import Derived.Test.YtnnopakfnenjfaaDoorOf
import Derived.Laws.Rows
import Derived.Laws.Tables
namespace Go.Proofs.YtnnopakfnenjfaaDoor
open Go.RowKit Go.Shelf

theorem run_loadCells {P : Program} {w : World} {g : Nat} {t : TypeId} {c : Array Value} {fr : Nat × Nat} (h : w.heap[g]? = some (.cells c t fr)) (n : Nat) (hn : c.size = n) :
    (loadCellsFrom ⟨g, 0, none⟩ 0 n #[]).run P w = .ok c w := by
  subst hn
  have := run_loadCells_list (P := P) w ⟨g, 0, none⟩ c.toList (fun j v hv => by
    have hadd : (⟨g, 0, none⟩ : Addr).add j = ⟨g, j, none⟩ := by unfold Addr.add; split <;> simp_all
    rw [hadd, cell_of_row _ _ j c t fr h]
    simpa using hv)
  simpa [loadCells] using this

/-- A table halfway: the first k cells are of M, the others of N. -/
def half (k : Nat) (f g : Nat → Value) : Array Value := ((List.range 32).map fun i => if i < k then f i else g i).toArray
theorem half_size (k : Nat) (f g : Nat → Value) : (half k f g).size = 32 := by simp [half]
theorem half_set (k : Nat) (hk : k < 32) (f g : Nat → Value) : (half k f g).setIfInBounds k (f k) = half (k + 1) f g := by
  apply Array.ext_getElem?
  intro i
  rw [Array.getElem?_setIfInBounds]
  unfold half
  by_cases h : k = i
  · subst h; simp [hk]
  · by_cases hi : i < 32
    · by_cases h1 : i < k
      · simp [h, hi, h1, show i < k + 1 by omega]
      · simp [h, hi, h1, show ¬ i < k + 1 by omega]
    · simp [h, hi]
def tabV (L : BitVec 32 → BitVec 32) (i : Nat) : Value := .int .u32 (U (L (1#32 <<< i)))
theorem half_all (L : BitVec 32 → BitVec 32) (g : Nat → Value) : half 32 (tabV L) g = tabOf L := by
  unfold half tabOf tabV
  congr 1

theorem tab_info (L : BitVec 32 → BitVec 32) : (Tryd.prog.info? 38).map (·.size) = some (tabOf L).size := by rw [tabOf_size]; kernel_rfl
theorem tab_one (L : BitVec 32 → BitVec 32) : (tabOf L).all (·.oneCell') = true := by
  rw [Array.all_eq_true_iff_forall_mem]
  intro v hv
  simp only [tabOf, List.mem_toArray, List.mem_map] at hv
  obtain ⟨i, _, rfl⟩ := hv
  rfl

set_option maxHeartbeats 1000000 in
theorem twice_c (L : BitVec 32 → BitVec 32) (hL : Lin L) (b : Nat) (w : World) (ht : Tab w) (ty : TypeId) (hb : w.heap[b]? = some (.cells (tabOf L) ty)) :
    Calls Tryd.prog 17 #[.pointer (some ⟨b, 0, none⟩)] w fun e w' => e = .returned (.agg (tabOf fun x => L (L x))) ∧ Kp no w w' := by
  have hb' := Lib.hid hb
  have ht' := Lib.hid ht
  clear hb ht
  go_enter Tryd.func17, Tryd.ntmps17
  go_wp2_with fail
  obtain ⟨n, hn⟩ : ∃ n, w.heap.size = n := ⟨_, rfl⟩
  generalize hW : w.alloc _ = W
  rw [hn]
  have hk : Kp no w W := by rw [← hW]; exact (Kp.refl no w).alloc _
  have hB : W.heap[b]? = some (.cells (tabOf L) ty) := hk.at hb'.out fun h => h
  have hR : W.heap[n]? = some (.cells (half 0 (tabV fun x => L (L x)) fun _ => .int .u32 0) 38) := by
    rw [← hW, ← hn]; exact blk_new _ _
  have htW : Tab W := ht'.out.no hk
  have h0n : 0 < n := by rw [← hn]; exact ht'.out.lt
  have hbn : b < n := by rw [← hn]; exact blk_lt hb'.out
  go_loopw [4] (fun i V => ∃ k : Nat, k ≤ 32 ∧ i = .int .i64 k ∧ Tab V ∧ V.heap[b]? = some (.cells (tabOf L) ty) ∧
      V.heap[n]? = some (.cells (half k (tabV fun x => L (L x)) fun _ => .int .u32 0) 38) ∧ Kp no w V) (fun i _ => 32 - (intOf i).toNat)
  case atStart => exact ⟨0, by omega, rfl, htW, hB, hR, hk⟩
  case round =>
    obtain ⟨k, hk32, rfl, i1, i2, i3, i6⟩ := hrel
    by_cases hkt : k < 32
    · have cB : wr.cell? ⟨b, k, none⟩ = some (.int .u32 (U (L (1#32 <<< k)))) := blk_cell i2 k _ (tabOf_at L hkt)
      have i2' := Lib.hid i2
      have i3' := Lib.hid i3
      clear i2 i3 hB hR hW hb'
      go_wp2_with fail
      refine (of_c L hL _ b wr i1 ty i2'.out).mono ?_
      rintro e V ⟨rfl, hkV⟩
      have j1 := i1.no hkV
      have j2 : V.heap[b]? = some (.cells (tabOf L) ty) := hkV.at i2'.out fun h => h
      have j3 := hkV.at i3'.out fun h => h
      have cR : V.cell? ⟨n, k, none⟩ = some ((half k (tabV fun x => L (L x)) fun _ => .int .u32 0).getD k undef) := blk_cell j3 k _ (by
        simp [half, hkt])
      have fR : V.frozen? ⟨n, k, none⟩ = false := blk_frozen j3 k
      have j3' := Lib.hid (blk_setCell j3 k (.int .u32 (U (L (L (1#32 <<< k))))))
      have j6 : Kp no w V := i6.trans hkV
      have hk2 := Lib.hid (Kp.setCell (p := ⟨n, k, none⟩) (Kp.refl (fun k => k = n) V) (.inl rfl) (.int .u32 (U (L (L (1#32 <<< k))))))
      clear j3
      go_wp2_with fail
      go_roundw
      case rel =>
        refine ⟨k + 1, by omega, by go_num, j1.kept hk2.out (by omega), hk2.out.at j2 (by omega), ?_, j6.then hk2.out (fun _ _ h => h.elim) (fun k hk h => by omega)⟩
        rw [j3'.out, ← half_set k hkt]; rfl
      case measure => simp [intOf]; omega
    · obtain rfl : k = 32 := by omega
      rw [half_all] at i3
      have hrow := Lib.hid i3
      clear i2 i3 hB hR hW hb'
      go_wp2_with (first
        | refine wpList_load_row rfl 38 _ rfl n rfl 38 (tabOf fun x => L (L x)) (0, 0) _ hrow.out Tryd.underlying38 rfl (tab_info _) ?_
        | (refine wpList_store_row rfl 38 _ _ rfl n (tabOf fun x => L (L x)) rfl rfl 38 (tabOf fun x => L (L x)) hrow.out (tab_info _) rfl (tab_one _) ?_; rw [setRow_self _ _ _ _ _ hrow.out]))
      refine bodyPost_ret (results_cell_row rfl _ _ n 38 (tabOf fun x => L (L x)) (0, 0) _ rfl hrow.out Tryd.underlying38 rfl (tab_info _)) rfl ?_
      exact ⟨rfl, i6⟩
end Go.Proofs.YtnnopakfnenjfaaDoor
