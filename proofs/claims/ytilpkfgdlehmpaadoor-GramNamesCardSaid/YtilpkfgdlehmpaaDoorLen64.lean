/- Len64 (printed by genlen.py). -/
import Derived.Test.YtilpkfgdlehmpaaDoorByteSl
namespace Go.Proofs.YtilpkfgdlehmpaaDoor
open Go.RowKit
set_option linter.unusedVariables false

def len8 (n : Nat) : Nat := if n = 0 then 0 else n.log2 + 1
def l1 (z : Int) : Int := if 4294967296 ≤ z then z / 4294967296 else z
def l2 (z : Int) : Int := if 65536 ≤ z then z / 65536 else z
def l3 (z : Int) : Int := if 256 ≤ z then z / 256 else z
/-- How many bits a number has. -/
def lenV (z : Int) : Int := (if 4294967296 ≤ z then 32 else 0) + (if 65536 ≤ l1 z then 16 else 0) + (if 256 ≤ l2 (l1 z) then 8 else 0) + len8 (l3 (l2 (l1 z))).toNat

set_option maxRecDepth 100000 in
theorem tab_all : ∀ i : Fin 256, (((⟨#[0, 1, 2, 2, 3, 3, 3, 3, 4, 4, 4, 4, 4, 4, 4, 4, 5, 5, 5, 5, 5, 5, 5, 5, 5, 5, 5, 5, 5, 5, 5, 5, 6, 6, 6, 6, 6, 6, 6, 6, 6, 6, 6, 6, 6, 6, 6, 6, 6, 6, 6, 6, 6, 6, 6, 6, 6, 6, 6, 6, 6, 6, 6, 6, 7, 7, 7, 7, 7, 7, 7, 7, 7, 7, 7, 7, 7, 7, 7, 7, 7, 7, 7, 7, 7, 7, 7, 7, 7, 7, 7, 7, 7, 7, 7, 7, 7, 7, 7, 7, 7, 7, 7, 7, 7, 7, 7, 7, 7, 7, 7, 7, 7, 7, 7, 7, 7, 7, 7, 7, 7, 7, 7, 7, 7, 7, 7, 7, 8, 8, 8, 8, 8, 8, 8, 8, 8, 8, 8, 8, 8, 8, 8, 8, 8, 8, 8, 8, 8, 8, 8, 8, 8, 8, 8, 8, 8, 8, 8, 8, 8, 8, 8, 8, 8, 8, 8, 8, 8, 8, 8, 8, 8, 8, 8, 8, 8, 8, 8, 8, 8, 8, 8, 8, 8, 8, 8, 8, 8, 8, 8, 8, 8, 8, 8, 8, 8, 8, 8, 8, 8, 8, 8, 8, 8, 8, 8, 8, 8, 8, 8, 8, 8, 8, 8, 8, 8, 8, 8, 8, 8, 8, 8, 8, 8, 8, 8, 8, 8, 8, 8, 8, 8, 8, 8, 8, 8, 8, 8, 8, 8, 8, 8, 8, 8, 8, 8, 8, 8, 8, 8, 8, 8, 8, 8, 8]⟩ : ByteArray)).data[i.val]'i.isLt).toNat = len8 i.val ∧ len8 i.val ≤ 8 := by decide +kernel

set_option maxRecDepth 100000 in
set_option maxHeartbeats 8000000 in
theorem len_c (z : Int) (h0 : 0 ≤ z) (h1 : z ≤ 18446744073709551615) (w : World) :
    Calls Tryd.prog 82 #[.int .u64 z] w fun e w' => e = .returned (.int .i64 (lenV z)) ∧ w = w' := by
  have tb : ∀ (i : Nat) (h : i < ((⟨#[0, 1, 2, 2, 3, 3, 3, 3, 4, 4, 4, 4, 4, 4, 4, 4, 5, 5, 5, 5, 5, 5, 5, 5, 5, 5, 5, 5, 5, 5, 5, 5, 6, 6, 6, 6, 6, 6, 6, 6, 6, 6, 6, 6, 6, 6, 6, 6, 6, 6, 6, 6, 6, 6, 6, 6, 6, 6, 6, 6, 6, 6, 6, 6, 7, 7, 7, 7, 7, 7, 7, 7, 7, 7, 7, 7, 7, 7, 7, 7, 7, 7, 7, 7, 7, 7, 7, 7, 7, 7, 7, 7, 7, 7, 7, 7, 7, 7, 7, 7, 7, 7, 7, 7, 7, 7, 7, 7, 7, 7, 7, 7, 7, 7, 7, 7, 7, 7, 7, 7, 7, 7, 7, 7, 7, 7, 7, 7, 8, 8, 8, 8, 8, 8, 8, 8, 8, 8, 8, 8, 8, 8, 8, 8, 8, 8, 8, 8, 8, 8, 8, 8, 8, 8, 8, 8, 8, 8, 8, 8, 8, 8, 8, 8, 8, 8, 8, 8, 8, 8, 8, 8, 8, 8, 8, 8, 8, 8, 8, 8, 8, 8, 8, 8, 8, 8, 8, 8, 8, 8, 8, 8, 8, 8, 8, 8, 8, 8, 8, 8, 8, 8, 8, 8, 8, 8, 8, 8, 8, 8, 8, 8, 8, 8, 8, 8, 8, 8, 8, 8, 8, 8, 8, 8, 8, 8, 8, 8, 8, 8, 8, 8, 8, 8, 8, 8, 8, 8, 8, 8, 8, 8, 8, 8, 8, 8, 8, 8, 8, 8, 8, 8, 8, 8, 8, 8]⟩ : ByteArray)).size), (((⟨#[0, 1, 2, 2, 3, 3, 3, 3, 4, 4, 4, 4, 4, 4, 4, 4, 5, 5, 5, 5, 5, 5, 5, 5, 5, 5, 5, 5, 5, 5, 5, 5, 6, 6, 6, 6, 6, 6, 6, 6, 6, 6, 6, 6, 6, 6, 6, 6, 6, 6, 6, 6, 6, 6, 6, 6, 6, 6, 6, 6, 6, 6, 6, 6, 7, 7, 7, 7, 7, 7, 7, 7, 7, 7, 7, 7, 7, 7, 7, 7, 7, 7, 7, 7, 7, 7, 7, 7, 7, 7, 7, 7, 7, 7, 7, 7, 7, 7, 7, 7, 7, 7, 7, 7, 7, 7, 7, 7, 7, 7, 7, 7, 7, 7, 7, 7, 7, 7, 7, 7, 7, 7, 7, 7, 7, 7, 7, 7, 8, 8, 8, 8, 8, 8, 8, 8, 8, 8, 8, 8, 8, 8, 8, 8, 8, 8, 8, 8, 8, 8, 8, 8, 8, 8, 8, 8, 8, 8, 8, 8, 8, 8, 8, 8, 8, 8, 8, 8, 8, 8, 8, 8, 8, 8, 8, 8, 8, 8, 8, 8, 8, 8, 8, 8, 8, 8, 8, 8, 8, 8, 8, 8, 8, 8, 8, 8, 8, 8, 8, 8, 8, 8, 8, 8, 8, 8, 8, 8, 8, 8, 8, 8, 8, 8, 8, 8, 8, 8, 8, 8, 8, 8, 8, 8, 8, 8, 8, 8, 8, 8, 8, 8, 8, 8, 8, 8, 8, 8, 8, 8, 8, 8, 8, 8, 8, 8, 8, 8, 8, 8, 8, 8, 8, 8, 8, 8]⟩ : ByteArray))[i]'h).toNat = len8 i := fun i h => (tab_all ⟨i, h⟩).1
  have hb : ∀ i, i ≤ 255 → len8 i ≤ 8 := fun i h => (tab_all ⟨i, by omega⟩).2
  have hb' := Lib.hid hb
  clear hb
  obtain ⟨V, hV⟩ : ∃ V, lenV z = V := ⟨_, rfl⟩
  rw [hV]
  unfold lenV l3 l2 l1 at hV
  by_cases c0 : 4294967296 ≤ z
  · have d0 : decide (4294967296 ≤ z) = true := by simpa using c0
    obtain ⟨z1, e0⟩ : ∃ x, z / 4294967296 = x := ⟨_, rfl⟩
    have b0 : 0 ≤ z1 ∧ z1 ≤ 4294967295 := by omega
    obtain ⟨p0, q0⟩ := b0
    simp only [if_pos c0, e0] at hV
    clear c0
    by_cases c1 : 65536 ≤ z1
    · have d1 : decide (65536 ≤ z1) = true := by simpa using c1
      obtain ⟨z2, e1⟩ : ∃ x, z1 / 65536 = x := ⟨_, rfl⟩
      have b1 : 0 ≤ z2 ∧ z2 ≤ 65535 := by omega
      obtain ⟨p1, q1⟩ := b1
      simp only [if_pos c1, e1] at hV
      clear c1
      by_cases c2 : 256 ≤ z2
      · have d2 : decide (256 ≤ z2) = true := by simpa using c2
        obtain ⟨z3, e2⟩ : ∃ x, z2 / 256 = x := ⟨_, rfl⟩
        have b2 : 0 ≤ z3 ∧ z3 ≤ 255 := by omega
        obtain ⟨p2, q2⟩ := b2
        simp only [if_pos c2, e2] at hV
        clear c2
        have hb3 := hb'.out z3.toNat (by omega)
        obtain ⟨L, hL⟩ : ∃ L, len8 z3.toNat = L := ⟨_, rfl⟩
        rw [hL] at hV hb3
        have hV' := Lib.hid hV
        clear hb' hV
        go_enter Tryd.func82, Tryd.ntmps82
        go_wp2_with fail
        go_ret
        refine ⟨congrArg (fun k => Ending.returned (Value.int .i64 k)) (?_ : _ = _), rfl⟩
        rw [← hV'.out]
        try omega
      · have d2 : decide (256 ≤ z2) = false := by simpa using c2
        have g2 : z2 ≤ 255 := by omega
        simp only [if_neg c2] at hV
        clear c2
        have hb3 := hb'.out z2.toNat (by omega)
        obtain ⟨L, hL⟩ : ∃ L, len8 z2.toNat = L := ⟨_, rfl⟩
        rw [hL] at hV hb3
        have hV' := Lib.hid hV
        clear hb' hV
        go_enter Tryd.func82, Tryd.ntmps82
        go_wp2_with fail
        go_ret
        refine ⟨congrArg (fun k => Ending.returned (Value.int .i64 k)) (?_ : _ = _), rfl⟩
        rw [← hV'.out]
        try omega
    · have d1 : decide (65536 ≤ z1) = false := by simpa using c1
      have g1 : z1 ≤ 65535 := by omega
      simp only [if_neg c1] at hV
      clear c1
      by_cases c2 : 256 ≤ z1
      · have d2 : decide (256 ≤ z1) = true := by simpa using c2
        obtain ⟨z3, e2⟩ : ∃ x, z1 / 256 = x := ⟨_, rfl⟩
        have b2 : 0 ≤ z3 ∧ z3 ≤ 255 := by omega
        obtain ⟨p2, q2⟩ := b2
        simp only [if_pos c2, e2] at hV
        clear c2
        have hb3 := hb'.out z3.toNat (by omega)
        obtain ⟨L, hL⟩ : ∃ L, len8 z3.toNat = L := ⟨_, rfl⟩
        rw [hL] at hV hb3
        have hV' := Lib.hid hV
        clear hb' hV
        go_enter Tryd.func82, Tryd.ntmps82
        go_wp2_with fail
        go_ret
        refine ⟨congrArg (fun k => Ending.returned (Value.int .i64 k)) (?_ : _ = _), rfl⟩
        rw [← hV'.out]
        try omega
      · have d2 : decide (256 ≤ z1) = false := by simpa using c2
        have g2 : z1 ≤ 255 := by omega
        simp only [if_neg c2] at hV
        clear c2
        have hb3 := hb'.out z1.toNat (by omega)
        obtain ⟨L, hL⟩ : ∃ L, len8 z1.toNat = L := ⟨_, rfl⟩
        rw [hL] at hV hb3
        have hV' := Lib.hid hV
        clear hb' hV
        go_enter Tryd.func82, Tryd.ntmps82
        go_wp2_with fail
        go_ret
        refine ⟨congrArg (fun k => Ending.returned (Value.int .i64 k)) (?_ : _ = _), rfl⟩
        rw [← hV'.out]
        try omega
  · have d0 : decide (4294967296 ≤ z) = false := by simpa using c0
    have g0 : z ≤ 4294967295 := by omega
    simp only [if_neg c0] at hV
    clear c0
    by_cases c1 : 65536 ≤ z
    · have d1 : decide (65536 ≤ z) = true := by simpa using c1
      obtain ⟨z2, e1⟩ : ∃ x, z / 65536 = x := ⟨_, rfl⟩
      have b1 : 0 ≤ z2 ∧ z2 ≤ 65535 := by omega
      obtain ⟨p1, q1⟩ := b1
      simp only [if_pos c1, e1] at hV
      clear c1
      by_cases c2 : 256 ≤ z2
      · have d2 : decide (256 ≤ z2) = true := by simpa using c2
        obtain ⟨z3, e2⟩ : ∃ x, z2 / 256 = x := ⟨_, rfl⟩
        have b2 : 0 ≤ z3 ∧ z3 ≤ 255 := by omega
        obtain ⟨p2, q2⟩ := b2
        simp only [if_pos c2, e2] at hV
        clear c2
        have hb3 := hb'.out z3.toNat (by omega)
        obtain ⟨L, hL⟩ : ∃ L, len8 z3.toNat = L := ⟨_, rfl⟩
        rw [hL] at hV hb3
        have hV' := Lib.hid hV
        clear hb' hV
        go_enter Tryd.func82, Tryd.ntmps82
        go_wp2_with fail
        go_ret
        refine ⟨congrArg (fun k => Ending.returned (Value.int .i64 k)) (?_ : _ = _), rfl⟩
        rw [← hV'.out]
        try omega
      · have d2 : decide (256 ≤ z2) = false := by simpa using c2
        have g2 : z2 ≤ 255 := by omega
        simp only [if_neg c2] at hV
        clear c2
        have hb3 := hb'.out z2.toNat (by omega)
        obtain ⟨L, hL⟩ : ∃ L, len8 z2.toNat = L := ⟨_, rfl⟩
        rw [hL] at hV hb3
        have hV' := Lib.hid hV
        clear hb' hV
        go_enter Tryd.func82, Tryd.ntmps82
        go_wp2_with fail
        go_ret
        refine ⟨congrArg (fun k => Ending.returned (Value.int .i64 k)) (?_ : _ = _), rfl⟩
        rw [← hV'.out]
        try omega
    · have d1 : decide (65536 ≤ z) = false := by simpa using c1
      have g1 : z ≤ 65535 := by omega
      simp only [if_neg c1] at hV
      clear c1
      by_cases c2 : 256 ≤ z
      · have d2 : decide (256 ≤ z) = true := by simpa using c2
        obtain ⟨z3, e2⟩ : ∃ x, z / 256 = x := ⟨_, rfl⟩
        have b2 : 0 ≤ z3 ∧ z3 ≤ 255 := by omega
        obtain ⟨p2, q2⟩ := b2
        simp only [if_pos c2, e2] at hV
        clear c2
        have hb3 := hb'.out z3.toNat (by omega)
        obtain ⟨L, hL⟩ : ∃ L, len8 z3.toNat = L := ⟨_, rfl⟩
        rw [hL] at hV hb3
        have hV' := Lib.hid hV
        clear hb' hV
        go_enter Tryd.func82, Tryd.ntmps82
        go_wp2_with fail
        go_ret
        refine ⟨congrArg (fun k => Ending.returned (Value.int .i64 k)) (?_ : _ = _), rfl⟩
        rw [← hV'.out]
        try omega
      · have d2 : decide (256 ≤ z) = false := by simpa using c2
        have g2 : z ≤ 255 := by omega
        simp only [if_neg c2] at hV
        clear c2
        have hb3 := hb'.out z.toNat (by omega)
        obtain ⟨L, hL⟩ : ∃ L, len8 z.toNat = L := ⟨_, rfl⟩
        rw [hL] at hV hb3
        have hV' := Lib.hid hV
        clear hb' hV
        go_enter Tryd.func82, Tryd.ntmps82
        go_wp2_with fail
        go_ret
        refine ⟨congrArg (fun k => Ending.returned (Value.int .i64 k)) (?_ : _ = _), rfl⟩
        rw [← hV'.out]
        try omega
end Go.Proofs.YtilpkfgdlehmpaaDoor
