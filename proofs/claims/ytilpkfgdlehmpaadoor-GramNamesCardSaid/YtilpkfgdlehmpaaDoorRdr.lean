/- The reader's number. -/
import Derived.Test.YtilpkfgdlehmpaaDoorVnB
import Derived.Test.YtilpkfgdlehmpaaDoorLen64
import Derived.Test.YtilpkfgdlehmpaaDoorSL
import Derived.BigQuiet
import Derived.Shelf.RegionOpenPlain
import Derived.Deep.LoopGhost
import Derived.Deep.RegionLaw
import Derived.Lib.Walk
import Derived.Sort.WalkB12
namespace Go.Proofs.YtilpkfgdlehmpaaDoor
open Go.RowKit Go.Shelf
set_option linter.unusedVariables false

abbrev ptrV (p : Nat) : Value := .pointer (some ⟨p, 0, none⟩)
/-- Bytes that are read. -/
def RdY (w : World) (a : Option Addr) (bs : List Int) : Prop := ∀ i (hi : i < bs.length), ∃ b o, a = some ⟨b, o, none⟩ ∧ w.cell? ⟨b, o + i, none⟩ = some (.int .u8 (bs[i]'hi))
def numR (bs : List Int) : Int × Int := match numF 0 0 bs with
  | none => (0, 0)
  | some (v, k) => (v, (k : Int))
theorem len127 {m : Int} (h0 : 0 ≤ m) (h1 : m ≤ 127) : ∃ b : Nat, lenV m = b ∧ b ≤ 7 ∧ (1 < b ↔ 1 < m) := by
  obtain ⟨a, rfl⟩ := Int.eq_ofNat_of_zero_le h0
  have key : ∀ a : Fin 128, lenV ((a.1 : Nat) : Int) = (len8 a.1 : Nat) ∧ len8 a.1 ≤ 7 ∧ (1 < len8 a.1 ↔ 1 < a.1) := by decide +kernel
  obtain ⟨k1, k2, k3⟩ := key ⟨a, by omega⟩
  exact ⟨_, k1, k2, by rw [k3]; show 1 < a ↔ _; omega⟩

set_option maxRecDepth 100000 in
set_option maxHeartbeats 8000000 in
theorem number_c {r : Nat} {a : Option Addr} {n c : Nat} {bs : List Int} {w : World} (hp : w.cell? ⟨r, 0, none⟩ = some (.slice a n c)) (hb : RdY w a bs) (hl : bs.length = n) (hnc : n ≤ c) (hn : n ≤ 6000) (hy : ∀ x ∈ bs, byteK x) :
    Calls Tryd.prog 78 #[ptrV r] w fun e w' => e = .returned (.tuple #[.int .u64 (numR bs).1, .int .i64 (numR bs).2]) ∧ w = w' := by
  obtain ⟨A, hA⟩ : ∃ A, (numR bs).1 = A := ⟨_, rfl⟩
  obtain ⟨B, hB⟩ : ∃ B, (numR bs).2 = B := ⟨_, rfl⟩
  rw [hA, hB]
  have hAB : Hid (numF 0 0 bs = none → A = 0 ∧ B = 0) := Lib.hid fun h => by unfold numR at hA hB; rw [h] at hA hB; exact ⟨hA.symm, hB.symm⟩
  have hAC : Hid (∀ v k, numF 0 0 bs = some (v, k) → A = v ∧ B = (k : Int)) := Lib.hid fun v k h => by unfold numR at hA hB; rw [h] at hA hB; exact ⟨hA.symm, hB.symm⟩
  have hl' := Lib.hid hl
  have hb' := Lib.hid hb
  have hy' := Lib.hid hy
  clear hA hB hl hb hy
  unfold ptrV at *
  go_enter Tryd.func78, Tryd.ntmps78
  go_wp2_with fail
  go_loop [13, 2] (fun i x => ∃ (j : Nat) (v : Int), j ≤ n ∧ j ≤ 10 ∧ i = .int .i64 j ∧ x = .int .u64 v ∧ Hid (0 ≤ v ∧ v < 128 ^ j ∧ numF 0 0 bs = numF j v (bs.drop j))) (fun i _ => n - (intOf i).toNat)
  case atStart => exact ⟨0, 0, by omega, by omega, rfl, rfl, Lib.hid ⟨by omega, by decide, rfl⟩⟩
  case round =>
    obtain ⟨j, v, hj, hj10, rfl, rfl, hR⟩ := hrel
    by_cases hjn : j < n
    · have hjl : j < bs.length := by rw [hl'.out]; exact hjn
      obtain ⟨b, o, rfl, g1⟩ := hb'.out j hjl
      have hcy := hy'.out _ (List.getElem_mem hjl)
      have hdr : Hid (bs.drop j = (bs[j]'hjl) :: bs.drop (j + 1)) := Lib.hid (List.drop_eq_getElem_cons hjl)
      generalize bs[j]'hjl = x at *
      have h127 := and127 hcy
      obtain ⟨m, hm⟩ : ∃ m, x % 128 = m := ⟨_, rfl⟩
      rw [hm] at h127
      have hm0 : 0 ≤ m ∧ m ≤ 127 := by omega
      have hlen := Lib.hid (len_c m (by omega) (by omega) w)
      obtain ⟨L, hL, hL7, hL1⟩ := len127 hm0.1 hm0.2
      rw [hL] at hlen
      clear hL
      by_cases h10 : j = 10
      · obtain ⟨rfl, rfl⟩ := hAB.out (by rw [hR.out.2.2, hdr.out]; exact numF_stop (.inl h10))
        have h10b : ((j : Int) == 10) = true := by simp; omega
        clear hR hdr hAB hAC hlen h10 hL1
        go_wp2_with fail
        go_ret2
        first | exact ⟨rfl, rfl⟩ | rfl | trivial
      have h10b : ((j : Int) == 10) = false := by simp; omega
      by_cases h9 : j = 9 ∧ 1 < m
      · obtain ⟨rfl, rfl⟩ := hAB.out (by rw [hR.out.2.2, hdr.out]; exact numF_stop (.inr (by rw [hm]; exact h9)))
        have hsum : 64 < (L : Int) + 7 * (j : Int) := by omega
        have hs2 : decide (64 < (L : Int) + 7 * (j : Int)) = true := by simpa using hsum
        clear hR hdr hAB hAC h9 h10 hL1
        go_wp2_with fail
        refine hlen.out.mono ?_
        rintro e w2 ⟨rfl, rfl⟩
        clear hlen
        go_wp2_with fail
        go_ret2
        first | exact ⟨rfl, rfl⟩ | rfl | trivial
      have hsum : (L : Int) + 7 * (j : Int) ≤ 64 := by omega
      have hs2 : decide (64 < (L : Int) + 7 * (j : Int)) = false := by simp; omega
      have hng : Hid (¬ (j = 10 ∨ (j = 9 ∧ 1 < x % 128))) := Lib.hid (by rw [hm]; omega)
      obtain ⟨V2, hV2⟩ : ∃ V2, v + m * 128 ^ j = V2 := ⟨_, rfl⟩
      have hst := num_step hR.out.1 hR.out.2.1 hcy
      rw [hm, hV2] at hst
      have hlim : V2 < 18446744073709551616 := by
        by_cases hj9 : j = 9
        · have h1 := hR.out.2.1
          subst hj9
          have h3 : (128 : Int) ^ 9 = 9223372036854775808 := by decide
          rw [h3] at h1 hV2
          omega
        · have h3 := pow128 (i := j + 1) (by omega)
          omega
      have hpw : (2 : Int) ^ (7 * j) = 128 ^ j := by rw [Int.pow_mul]; rfl
      have hmp : 0 ≤ m * 128 ^ j := Int.mul_nonneg hm0.1 (Int.le_of_lt (Int.pow_pos (by decide)))
      have hor : Hid (bits .or .u64 v (IntKind.u64.wrap (m * 2 ^ (7 * j))) = V2) := Lib.hid (by
        have hv := hR.out.1
        have e : IntKind.u64.wrap (m * 2 ^ (7 * j)) = m * 2 ^ (7 * j) := by
          rw [hpw]
          generalize m * 128 ^ j = z at *
          unfold IntKind.wrap
          simp [IntKind.bits, IntKind.signed]
          omega
        rw [e, or_low hv (by rw [hpw]; exact hR.out.2.1) hm0.1 (by rw [hpw, hV2]; exact hlim), hpw, hV2])
      have hnx : Hid (numF 0 0 bs = numF j v (x :: bs.drop (j + 1))) := Lib.hid (by rw [hR.out.2.2, hdr.out])
      have hstep := Lib.hid hst
      have hVm : Hid (v + x % 128 * 128 ^ j = V2) := Lib.hid (by rw [hm]; exact hV2)
      clear hR hdr hV2 hst hlim hpw hmp h9 h10 hL1 hm
      by_cases h128 : 128 ≤ x
      · have hrel : Hid (0 ≤ V2 ∧ V2 < 128 ^ (j + 1) ∧ numF 0 0 bs = numF (j + 1) V2 (bs.drop (j + 1))) := Lib.hid ⟨hstep.out.1, hstep.out.2, by rw [hnx.out, numF_next hng.out h128, hVm.out]⟩
        have hj1 : Hid (j + 1 ≤ 10) := Lib.hid (by have := hng.out; omega)
        clear hnx hstep hVm hng
        go_wp2_with fail
        refine hlen.out.mono ?_
        rintro e w2 ⟨rfl, rfl⟩
        clear hlen
        go_wp2_with fail
        go_round
        case rel => exact ⟨j + 1, V2, by omega, hj1.out, by go_num, by rw [hor.out], hrel⟩
        case measure => (simp [intOf]; try omega)
      have hx8 : x < 128 := by omega
      by_cases hz : x = 0 ∧ 0 < j
      · obtain ⟨rfl, rfl⟩ := hAB.out (by rw [hnx.out]; exact numF_zero hng.out hz.1 hz.2)
        have hz1 : (x == 0) = true := by simp; exact hz.1
        have hz2 : 0 < j := hz.2
        clear hz hnx hstep hVm hng h128 hAB hAC
        go_wp2_with fail
        refine hlen.out.mono ?_
        rintro e w2 ⟨rfl, rfl⟩
        clear hlen
        go_wp2_with fail
        go_ret2
        first | exact ⟨rfl, rfl⟩ | rfl | trivial
      obtain ⟨hA1, hB1⟩ := hAC.out _ _ (by rw [hnx.out]; exact numF_done hng.out h128 hz)
      have hAB2 : Hid (A = V2 ∧ B = (j : Int) + 1) := Lib.hid ⟨by rw [hA1, hVm.out], by rw [hB1]; rfl⟩
      clear hA1 hB1 hnx hstep hVm hng h128 hAB hAC
      by_cases hx0 : x = 0
      · have hj0 : ¬ 0 < j := fun h => hz ⟨hx0, h⟩
        have hz1 : (x == 0) = true := by simp; exact hx0
        have hz2 : decide (0 < (j : Int)) = false := by simp; omega
        clear hz hx0
        go_wp2_with fail
        refine hlen.out.mono ?_
        rintro e w2 ⟨rfl, rfl⟩
        clear hlen
        go_wp2_with fail
        go_ret2
        rw [hor.out, hAB2.out.1, hAB2.out.2]
        first | exact ⟨rfl, rfl⟩ | rfl | trivial
      · have hz1 : (x == 0) = false := by simpa using hx0
        clear hz hx0
        go_wp2_with fail
        refine hlen.out.mono ?_
        rintro e w2 ⟨rfl, rfl⟩
        clear hlen
        go_wp2_with fail
        go_ret2
        rw [hor.out, hAB2.out.1, hAB2.out.2]
        first | exact ⟨rfl, rfl⟩ | rfl | trivial
    · obtain rfl : j = n := by omega
      obtain ⟨rfl, rfl⟩ := hAB.out (by rw [hR.out.2.2, List.drop_eq_nil_of_le (by rw [hl'.out]; exact Nat.le_refl _)]; exact numF_nil _ _)
      clear hR hAB hAC
      go_wp2_with fail
      go_ret2
      first | exact ⟨rfl, rfl⟩ | rfl | trivial
end Go.Proofs.YtilpkfgdlehmpaaDoor
