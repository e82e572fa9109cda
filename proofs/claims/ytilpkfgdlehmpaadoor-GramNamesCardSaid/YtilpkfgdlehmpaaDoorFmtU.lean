/- strconv.FormatUint at base 10: the decimal digits. -/
import Derived.Test.YtilpkfgdlehmpaaDoorShelf
import Derived.Test.YtilpkfgdlehmpaaDoorSL
import Derived.Lib.ItoaMem
import Derived.WalkKit
import Derived.CellFam
namespace Go.Proofs.YtilpkfgdlehmpaaDoor
open Go.RowKit Go.Shelf Go.Sort Go.Lib
set_option linter.unusedVariables false

theorem kp_grow (w : World) (k : Nat) (os : Array Obj) : Kp no w (grow (w.drewN k) os) :=
  ⟨rfl, rfl, rfl, by simp [grow], fun b hb _ => by
    show (w.heap ++ os)[b]? = _
    rw [Array.getElem?_append_left hb]⟩
theorem fin_0 (w : World) (o : Obj) (dk : Array UInt8) (k : Nat) : ∃ os, (putRow (fun (b : UInt8) => Value.int .u8 (b.toNat : Int)) (w.alloc o) w.heap.size 0 dk).drewN k = grow (w.drewN k) os := by
  rw [alloc_eq_grow]
  obtain ⟨os', _, e⟩ := putRow_grow_new (fun (b : UInt8) => Value.int .u8 (b.toNat : Int)) w #[o] w.heap.size 0 dk (Nat.le_refl _)
  exact ⟨os', by rw [e]; rfl⟩
theorem holds_zero0 (w : World) (T : TypeId) (nd : Nat) (hs : nd ≤ 24) : Holds (fun (b : UInt8) => Value.int .u8 (b.toNat : Int)) (w.alloc (.cells zeros24 T)) w.heap.size 0 (Array.replicate nd (0 : UInt8)) := fun j hj => by
  have hj' : j < nd := by simpa using hj
  refine ⟨?_, World.frozen?_alloc_new _ _ _ _⟩
  rw [World.cell?_alloc_new, zeros24_at _ (by omega), getElem!_pos _ j hj]
  simp

set_option maxHeartbeats 6400000 in
set_option maxRecDepth 100000 in
theorem fmtUI_c (u : Nat) (hu64 : u < 18446744073709551616) (w : World) (htab : TabIs Tryd.prog w "internal/strconv.uint64pow10" .u64 pow10Tab) :
    Calls Tryd.prog 60 #[.int .u64 (u : Int), .int .i64 10] w fun e w' => e = .returned (.string ⟨(decDigits u).toArray⟩) ∧ Kp no w w' := by
  have mixed : Tryd.prog.follows .mixedOrders = true := by kernel_rfl
  by_cases hs : u < 100
  · have hsm := Lib.hid (fun w => Tryd.internal_strconv_small u hs w)
    go_enter Tryd.func60, Tryd.ntmps60
    go_wp2_with fail
    refine (hsm.out _).mono ?_
    rintro e w' ⟨rfl, rfl⟩
    go_wp2_with fail
    go_ret
    exact ⟨rfl, Kp.refl _ _⟩
  · have hu1 : 1 ≤ u := by omega
    have hnd20 : nDigits u ≤ 20 := by have := numDigits_eq u hu1 hu64; split at this <;> omega
    have hn0 : 1 ≤ nDigits u := by unfold nDigits; split <;> omega
    have hnum := Lib.hid (fun w h => Tryd.internal_strconv_numDigits u hu1 hu64 w h)
    have hH0 := holds_zero0 w 111 (nDigits u) (by omega)
    have hfmt := Tryd.internal_strconv_formatBase10 w.heap.size 0 24 u (Array.replicate (nDigits u) 0) (w.alloc (.cells zeros24 111)) hH0 (by rw [Array.size_replicate]; exact lt_pow_nDigits u) hu64 (by rw [Array.size_replicate]; omega)
    rw [Array.size_replicate] at hfmt
    have HH0 := Lib.hid hH0
    have hfm := Lib.hid hfmt
    have ht := Lib.hid htab
    have hu := Lib.hid hu64
    obtain ⟨nd, hnd⟩ : ∃ nd, nDigits u = nd := ⟨_, rfl⟩
    have hnd' := Lib.hid hnd
    rw [hnd] at hfm hnd20 hn0 hnum HH0
    have hal : Tryd.prog.arrayLen 111 = 24 := by kernel_rfl
    have hsl : ∀ W, (Instr.sliceAt 111 (.pointer (some ⟨w.heap.size, 0, none⟩)) none (some (.int .i64 (nd : Int))) none).run Tryd.prog W = .ok (.slice (some ⟨w.heap.size, 0, none⟩) nd 24) W := fun W => by
      rw [run_sliceAt_array_h W 111 ⟨w.heap.size, 0, none⟩ (by kernel_rfl) .i64 (nd : Int) (by omega) (by rw [hal]; omega)]
      rw [show (sizeOf (Tryd.prog.elem 111)).run Tryd.prog W = .ok 1 W by kernel_rfl, hal]
      simp [Result.andThen, slicedAt, Addr.add]
    clear hH0 hfmt htab hu64 hnd hu1 hal
    go_enter Tryd.func60, Tryd.ntmps60
    go_wp2_with fail
    refine (hnum.out _ (tabIs_alloc ht.out _)).mono ?_
    rintro e w' ⟨rfl, rfl⟩
    clear hnum
    go_wp2_with fail
    refine hfm.out.mono ?_
    rintro e w' ⟨rfl, k, v', dk, rfl, hF⟩
    have hcv : (convert 23 9 (.slice (some ⟨w.heap.size, 0, none⟩) nd 24)).run Tryd.prog ((putRow (fun (b : UInt8) => Value.int .u8 (b.toNat : Int)) (w.alloc (.cells zeros24 111)) w.heap.size 0 dk).drewN k) = .ok (.string ⟨(decDigits u).toArray⟩) ((putRow (fun (b : UInt8) => Value.int .u8 (b.toNat : Int)) (w.alloc (.cells zeros24 111)) w.heap.size 0 dk).drewN k) := by
      have h := run_convert_bytes_back (P := Tryd.prog) ((putRow (fun (b : UInt8) => Value.int .u8 (b.toNat : Int)) (w.alloc (.cells zeros24 111)) w.heap.size 0 dk).drewN k) 23 9 5 ⟨w.heap.size, 0, none⟩ 24 (decDigits u) Tryd.underlying23 Tryd.underlying5 Tryd.underlying9 (fun j hj => by
        rw [row_is_numeral (by rw [hnd'.out]; exact hF) j hj, add_plain, World.cell?_drewN]
        exact cell?_putRow (fun (b : UInt8) => Value.int .u8 (b.toNat : Int)) _ w.heap.size 0 _ dk HH0.out (by rw [hF.size, Array.size_replicate]) j (by rw [hF.size]; rw [decDigits_length, hnd'.out] at hj; exact hj))
      rw [decDigits_length, hnd'.out] at h
      exact h
    obtain ⟨os, eo⟩ := fin_0 w (.cells zeros24 111) dk k
    have hk := Lib.hid (kp_grow w k os)
    rw [← eo] at hk
    clear hF HH0 hfm eo
    go_wp2_with fail
    go_ret
    exact ⟨rfl, hk.out⟩
def decS (n : Nat) : ByteArray := ⟨(decDigits n).toArray⟩
/-- strconv.FormatUint. -/
theorem fmtU_c (u : Nat) (hu64 : u < 18446744073709551616) (w : World) (htab : TabIs Tryd.prog w "internal/strconv.uint64pow10" .u64 pow10Tab) :
    Calls Tryd.prog 37 #[.int .u64 (u : Int), .int .i64 10] w fun e w' => e = .returned (.string (decS u)) ∧ Kp no w w' := by
  have hf := Lib.hid (fmtUI_c u hu64 w htab)
  clear hu64 htab
  go_enter Tryd.func37, Tryd.ntmps37
  go_wp2_with fail
  refine hf.out.mono ?_
  rintro e w' ⟨rfl, hk⟩
  have hk' := Lib.hid hk
  clear hk hf
  go_wp2_with fail
  go_ret
  exact ⟨rfl, hk'.out⟩
end Go.Proofs.YtilpkfgdlehmpaaDoor
