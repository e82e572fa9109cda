/- The walk of slices.Delete at slices of bytes (turned from the kit's worked proof of slices.Delete). -/
import Derived.Test.YtnkahibddhchlaaByteSl
import Derived.Shelf.RegionOpenPlain
import Derived.Deep.LoopGhost
import Derived.Deep.RegionLaw
import Derived.Lib.Walk
import Derived.Sort.WalkB12
import Derived.Lib.SlicesDelete
import Derived.Lib.OwnBridge
import Derived.Shelf.SlicesE.Kit
namespace Go.Proofs.Ytnkahibddhchlaa
open Go.RowKit Go.Lib Go.Sort Go.Shelf
set_option linter.unusedVariables false

/-- A slice of bytes as a value. -/
abbrev SlT := Option Addr × Nat × Nat
def slV (x : SlT) : Value := .slice x.1 x.2.1 x.2.2
theorem slV_one : OneCell slV := fun _ => rfl
theorem slV_zero : ∀ w, (zeroValue 29).run Try.prog w = .ok (slV (none, 0, 0)) w := fun w => by simp [go_sem, slV]

set_option maxHeartbeats 4000000 in
set_option maxRecDepth 1000000 in
theorem delete_arr_c (i0 : TypeInfo) (hi0 : Try.prog.info? 29 = some i0) (hz1 : i0.size = 1) (blk off cap i j : Nat) (d : Array SlT) (w : World) (hH : Holds slV w blk off d) (hcap : d.size ≤ cap) (hm : cap ≤ 9223372036854775807) (hij : i < j) (hj : j ≤ d.size) :
    Calls Try.prog 49 #[.slice (some ⟨blk, off, none⟩) d.size cap, .int .i64 i, .int .i64 j] w fun e w' => e = .returned (.slice (some ⟨blk, off, none⟩) (d.size - (j - i)) cap) ∧ ∃ q, w' = putRow slV (Sort.ahead w q) blk off (d.toList.take i ++ d.toList.drop j ++ List.replicate (j - i) (none, 0, 0)).toArray := by
  have mixed : Try.prog.follows Departure.mixedOrders = true := by kernel_rfl
  have hlt : i < j := hij
  have h1 := slV_one
  obtain ⟨news, hnews⟩ : ∃ news, news = (d.toList.drop j).map slV := ⟨_, rfl⟩
  have hlen : news.length = d.size - j := by rw [hnews]; simp
  have hget : ∀ t, t < d.size - j → news[t]? = some (slV d[j + t]!) := by
    intro t ht
    rw [hnews, List.getElem?_map, List.getElem?_drop, Array.getElem?_toList, getElem!_pos d (j + t) (by omega), Array.getElem?_eq_getElem (by omega)]
    rfl
  obtain ⟨A, hA, hsrc⟩ : ∃ A : Addr, (if cap = j then some (⟨blk, off, none⟩ : Addr) else some ⟨blk, off + j, none⟩) = some A ∧ Hid (∀ t u, news[t]? = some u → w.drew.cell? (A.add t) = some u) := by
    by_cases h : cap = j
    · refine ⟨⟨blk, off, none⟩, by simp [h], fun t u hu => ?_⟩
      have h0 : news.length = 0 := by rw [hlen]; omega
      rw [List.length_eq_zero_iff.1 h0] at hu
      simp at hu
    · refine ⟨⟨blk, off + j, none⟩, by simp [h], fun t u hu => ?_⟩
      have ht : t < d.size - j := by
        have := (List.getElem?_eq_some_iff.1 hu).1
        rwa [hlen] at this
      rw [hget t ht] at hu
      rw [Addr.add_lit, show off + j + t = off + (j + t) by omega]
      exact (hH (j + t) (by omega)).1.trans hu
  have s1 : Hid (news.length = (d.size - j) * 1) := by rw [Nat.mul_one]; exact hlen
  have s2 : Hid (∀ u ∈ news, u.oneCell' = true) := by
    intro u hu
    rw [hnews] at hu
    obtain ⟨x, _, rfl⟩ := List.mem_map.1 hu
    exact h1 x
  have s3 : Hid (∀ t, t < news.length → (w.drew.cell? ⟨blk, off + i * 1 + t, none⟩).isSome = true ∧ w.drew.frozen? ⟨blk, off + i * 1 + t, none⟩ = false) := by
    intro t ht
    rw [hlen] at ht
    rw [Nat.mul_one, Nat.add_assoc]
    exact ⟨by show (w.cell? _).isSome = true; rw [(hH (i + t) (by omega)).1]; rfl, (hH (i + t) (by omega)).2⟩
  obtain ⟨W1, hW1⟩ : ∃ W1, W1 = w.drew.setCells blk (off + i * 1) news := ⟨_, rfl⟩
  have hW1' : W1 = putRow slV (Sort.ahead w 1) blk off (lay d i (d.toList.drop j)) := by
    rw [hW1, hnews, Nat.mul_one, ← putRow_setCells slV (Sort.ahead w 1) blk off _ d i (by simp; omega), putRow_self slV (Sort.ahead w 1) blk off d (holds_ahead slV w 1 blk off d hH)]
    rfl
  have hH1 : Holds slV W1 blk off (lay d i (d.toList.drop j)) := by rw [hW1']; exact holds_putRow slV _ blk off d _ (holds_ahead slV w 1 blk off d hH) (lay_size _ _ _)
  have hcl : ∀ ty, (Builtin.clear_ #[22] ty #[.slice (some ⟨blk, off + (i + (d.size - j)), none⟩) (d.size - (i + (d.size - j))) (cap - (i + (d.size - j)))]).run Try.prog W1 = .ok (.tuple #[]) (W1.setCells blk (off + (i + (d.size - j))) (List.replicate (d.size - (i + (d.size - j))) (slV (none, 0, 0)))) :=
    fun ty => Lib.run_clear_slice W1 _ _ ty _ Try.underlying22 slV_zero (h1.cells (none, 0, 0)) (h1 (none, 0, 0)) blk (off + (i + (d.size - j))) _ _ (by omega) (fun t ht => by rw [show off + (i + (d.size - j)) + t = off + (i + (d.size - j) + t) by omega, (hH1 _ (by rw [lay_size]; omega)).1]; rfl) (fun t ht => by rw [show off + (i + (d.size - j)) + t = off + (i + (d.size - j) + t) by omega]; exact (hH1 _ (by rw [lay_size]; omega)).2)
  have X : Aside (W1 = putRow slV (Sort.ahead w 1) blk off (lay d i (d.toList.drop j))) := hW1'
  have hW : Hid (W1 = w.drew.setCells blk (off + i * 1) news) := hW1
  have hic : i ≤ cap := by omega
  have hjc : j ≤ cap := by omega
  clear hW1 hW1' hH1 hH hget hnews hlen
  go_enter Try.func49, Try.ntmps49
  go_wp2_with fail
  go_region_law_o (refine step_append_room rfl (.tmp 22) (.tmp 25) 22 rfl 29 i0 1 Try.underlying22 hi0 hz1 blk off i cap (by simp [Act.eval, Act.put]) A (d.size - j) (cap - j) news (by simp [Act.eval, Act.put]) s1.out hsrc.out s2.out (by omega) s3.out ?_; rw [← hW.out])
  go_wp2
  go_ret
  refine ⟨by rw [show d.size - (j - i) = i + (d.size - j) by omega]; rfl, 1, ?_⟩
  rw [← delete_arr d i j (none, 0, 0) (by omega) hj, ← putRow_setCells slV _ blk off _ _ (i + (d.size - j)) (by rw [lay_size]; simp; omega), ← X.out, List.map_replicate, show d.size - (i + (d.size - j)) = j - i by omega]

/-- One is taken out of a slice of the call's own. -/
theorem delete_c {g n cap i : Nat} {vs : List SlT} {w : World} {L : List Pc} (H : SL w (.own 29 1 (.slice (some ⟨g, 0, none⟩) n cap) n (vs.map slV) :: L)) (hi : i < n) :
    Calls Try.prog 49 #[.slice (some ⟨g, 0, none⟩) n cap, .int .i64 i, .int .i64 (i + 1 : Nat)] w fun e w' => e = .returned (.slice (some ⟨g, 0, none⟩) (n - 1) cap) ∧ SL w' (.own 29 1 (.slice (some ⟨g, 0, none⟩) (n - 1) cap) (n - 1) ((vs.eraseIdx i).map slV) :: L) := by
  have h0 : w.ownsRow 0 29 1 (.slice (some ⟨g, 0, none⟩) n cap) n (vs.map slV) := H.head
  obtain ⟨g', cap', he, _, hlt, hn, hm, hl, hH⟩ := holds_of_ownsRow h0 (by simp)
  cases he
  have hsz : vs.toArray.size = n := by simpa using hl
  obtain ⟨i0, hi0, hz1⟩ : ∃ i0, Try.prog.info? 29 = some i0 ∧ i0.size = 1 := ⟨_, rfl, by kernel_rfl⟩
  have hc := delete_arr_c i0 hi0 hz1 g 0 cap i (i + 1) vs.toArray w hH (by omega) (by simpa [maxLen] using hm) (by omega) (by omega)
  rw [hsz] at hc
  refine hc.mono ?_
  rintro e w' ⟨rfl, q, rfl⟩
  rw [show i + 1 - i = 1 by omega]
  refine ⟨rfl, H.upd (q := .own 29 1 (.slice (some ⟨g, 0, none⟩) (n - 1) cap) (n - 1) ((vs.eraseIdx i).map slV)) ?_ ?_ fun b hb => .inl hb⟩
  · refine ⟨rfl, rfl, rfl, by simp [putRow, mapBlock, Sort.ahead], fun k hk hS => ?_⟩
    have : ¬ g = k := fun e => hS (by show Value.ownBlock _ = _; rw [e]; rfl)
    simp [putRow, mapBlock, Sort.ahead, Array.getElem?_modify, this]
  · have hy : (vs.take i ++ vs.drop (i + 1) ++ List.replicate 1 ((none, 0, 0) : SlT)).length = n := by simp; omega
    have := ownsRow_putRow (q := q) (k := n - 1) h0 hy (by omega)
    have e : (vs.take i ++ vs.drop (i + 1) ++ List.replicate 1 ((none, 0, 0) : SlT)).take (n - 1) = vs.eraseIdx i := by
      rw [List.take_append_of_le_length (by simp; omega), List.take_of_length_le (by simp; omega), List.eraseIdx_eq_take_drop_succ]
    rw [e] at this
    exact this
end Go.Proofs.Ytnkahibddhchlaa
