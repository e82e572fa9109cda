/- mullionref18.digits. -/
import Derived.Test.YtilpkfgdlehmpaaDoorTxt
namespace Go.Proofs.YtilpkfgdlehmpaaDoor
open Go.RowKit Go.Shelf
set_option linter.unusedVariables false

/-- What stands ahead of the digits that were taken. -/
def digR (n k y : Nat) (l : List UInt8) : Prop := Lib.decDigits n = (if k = 0 ∨ 0 < y then Lib.decDigits y else []) ++ l
theorem digR_step {n k y : Nat} {l : List UInt8} (h : digR n k y l) (hk : k = 0 ∨ 0 < y) : digR n (k + 1) (y / 10) (UInt8.ofNat (48 + y % 10) :: l) := by
  unfold digR at *
  rw [if_pos hk] at h
  rw [h]
  by_cases h10 : y < 10
  · rw [Lib.decDigits_one h10, if_neg (by omega), Nat.mod_eq_of_lt h10]; rfl
  · rw [show Lib.decDigits y = Lib.decDigits (y / 10) ++ [UInt8.ofNat (48 + y % 10)] from by rw [Lib.decDigits, dif_neg h10], if_pos (by omega), List.append_assoc]; rfl
theorem digR_end {n k y : Nat} {l : List UInt8} (h : digR n k y l) (hk : ¬ k = 0) (hy : y = 0) : Lib.decDigits n = l := by
  unfold digR at h
  rw [if_neg (by omega)] at h
  exact h
def lS (l : List UInt8) : ByteArray := ⟨l.toArray⟩
theorem lS_app (a b : List UInt8) : lS a ++ lS b = lS (a ++ b) := by
  apply ByteArray.ext
  simp [lS]

set_option maxRecDepth 100000 in
set_option maxHeartbeats 4000000 in
theorem digits_c (n : Nat) (hn : n < 18446744073709551616) {L : List Pc} {w : World} (H : SL w L) :
    Calls Tryd.prog 39 #[.int .u64 (n : Int)] w fun e w' => e = .returned (.string (decS n)) ∧ SL w' L := by
  have hn' := Lib.hid hn
  have hH := Lib.hid H
  clear H hn
  go_enter Tryd.func39, Tryd.ntmps39
  go_wp2_with fail
  go_loopw [4, 3, 0] (fun i s z V => ∃ (k y : Nat) (l : List UInt8), k ≤ 20 ∧ i = .int .i64 k ∧ s = .string (lS l) ∧ z = .int .u64 (y : Int) ∧ Hid (digR n k y l ∧ y * 10 ^ k < 18446744073709551616 ∧ l.length = k) ∧ SL V L) (fun i _ _ _ => 20 - (intOf i).toNat)
  case atStart => exact ⟨0, n, [], by omega, rfl, rfl, rfl, Lib.hid ⟨by unfold digR; rw [if_pos (.inl rfl), List.append_nil], by have := hn'.out; simpa using this, rfl⟩, hH.out⟩
  case round =>
    clear hH
    obtain ⟨k, y, l, hk, rfl, rfl, rfl, hR, H⟩ := hrel
    by_cases hgo : k < 20 ∧ (k = 0 ∨ 0 < y)
    · obtain ⟨hk20, hky⟩ := hgo
      have hnx := Lib.hid (digR_step hR.out.1 hky)
      obtain ⟨d, hd⟩ : ∃ d : Nat, y % 10 = d := ⟨_, rfl⟩
      rw [hd] at hnx
      have hd9 : d < 10 := by omega
      have hdi : (y : Int) % 10 = (d : Int) := by omega
      have hw1 : IntKind.u64.wrap (48 + (d : Int)) = 48 + (d : Int) := by unfold IntKind.wrap; simp [IntKind.bits, IntKind.signed]; omega
      have hqw : (48 + (d : Int)) % 256 = 48 + (d : Int) := by omega
      have hll := Lib.hid hR.out.2.2
      have hyd : Hid (IntKind.u64.wrap ((y : Int) / 10) = ((y / 10 : Nat) : Int)) := Lib.hid (by
        have h1 := hR.out.2.1
        have h2 : y ≤ y * 10 ^ k := Nat.le_mul_of_pos_right _ (Nat.pow_pos (by decide))
        unfold IntKind.wrap
        simp [IntKind.bits, IntKind.signed]
        omega)
      have hlim : Hid (y / 10 * 10 ^ (k + 1) < 18446744073709551616) := Lib.hid (by
        have h1 := hR.out.2.1
        have : y / 10 * 10 ^ (k + 1) ≤ y * 10 ^ k := by
          rw [Nat.pow_succ, Nat.mul_comm (10 ^ k) 10, ← Nat.mul_assoc]
          exact Nat.mul_le_mul_right _ (by omega)
        omega)
      have hA := H.alloc [.int .u8 (48 + (d : Int))] 5
      obtain ⟨x, hx⟩ : ∃ x, UInt8.ofNat (48 + d) = x := ⟨_, rfl⟩
      have hxn : (x.toNat : Int) = 48 + (d : Int) := by rw [← hx]; simp; omega
      rw [hx] at hnx
      have hcv : (convert 23 9 (.slice (some ⟨wr.heap.size, 0, none⟩) 1 1)).run Tryd.prog (wr.alloc (.cells #[Value.int .u8 (48 + (d : Int))] 5)) = .ok (.string (lS [x])) (wr.alloc (.cells #[Value.int .u8 (48 + (d : Int))] 5)) :=
        run_convert_bytes_back (P := Tryd.prog) (wr.alloc (.cells #[Value.int .u8 (48 + (d : Int))] 5)) 23 9 5 ⟨wr.heap.size, 0, none⟩ 1 [x] Tryd.underlying23 Tryd.underlying5 Tryd.underlying9 (fun j hj => by
          obtain rfl : j = 0 := by simpa using hj
          rw [Lib.add_plain]
          have := hA.cell (b := wr.heap.size) (o := 0) (.here _ _) rfl
          rw [show [x][0] = x from rfl, hxn]
          exact this)
      have hcat := lS_app [x] l
      rw [show [x] ++ l = x :: l from rfl] at hcat
      have hs1 : (lS [x]).size ≤ 1 := Nat.le_refl _
      have hs2 : (lS l).size ≤ 20 := by have := hll.out; simp [lS, ByteArray.size]; omega
      have hH := Lib.hid hA.tail
      clear hA hx hxn hR hd
      by_cases hk0 : k = 0
      · have hk0b : ((k : Int) == 0) = true := by simp; omega
        have hk2 : decide (k < 20) = true := by simp; omega
        have hk0c := Lib.hid hk0
        clear hky hk0
        go_wp2_with fail
        go_roundw
        case rel => exact ⟨k + 1, y / 10, x :: l, by omega, by go_num, rfl, by first | rfl | (rw [hyd.out]), Lib.hid ⟨hnx.out, hlim.out, by rw [List.length_cons, hll.out]⟩, hH.out⟩
        case measure => (simp [intOf]; try omega)
      · have hy0 : 0 < y := by omega
        have hk0b : ((k : Int) == 0) = false := by simp; omega
        have hk2 : decide (k < 20) = true := by simp; omega
        have hy1 : decide (0 < y) = true := by simpa using hy0
        clear hky hk0
        go_wp2_with fail
        go_roundw
        case rel => exact ⟨k + 1, y / 10, x :: l, by omega, by go_num, rfl, by first | rfl | (rw [hyd.out]), Lib.hid ⟨hnx.out, hlim.out, by rw [List.length_cons, hll.out]⟩, hH.out⟩
        case measure => (simp [intOf]; try omega)
    · have hfin : Hid (Lib.decDigits n = l) := Lib.hid (by
        by_cases h20 : k = 20
        · refine digR_end hR.out.1 (by omega) ?_
          have h1 := hR.out.2.1
          subst h20
          have : (10 : Nat) ^ 20 = 100000000000000000000 := by decide
          omega
        · exact digR_end hR.out.1 (by omega) (by omega))
      have hE : Hid (decS n = lS l) := Lib.hid (by unfold decS lS; rw [hfin.out])
      have hH := Lib.hid H
      clear hR H hfin
      by_cases h20 : k = 20
      · have hk2 : decide (k < 20) = false := by simp; omega
        have hk3 : ¬ k < 20 := by omega
        have h20' := Lib.hid h20
        clear hgo h20
        go_wp2_with fail
        go_ret
        exact ⟨by rw [hE.out]; rfl, hH.out⟩
      · have hk2 : decide (k < 20) = true := by simp; omega
        have hk3 : k < 20 := by omega
        have hk0b : ((k : Int) == 0) = false := by simp; omega
        have hy0 : ¬ 0 < y := by omega
        have hy1 : decide (0 < y) = false := by simp; omega
        clear hgo h20
        go_wp2_with fail
        go_ret
        exact ⟨by rw [hE.out]; rfl, hH.out⟩
end Go.Proofs.YtilpkfgdlehmpaaDoor
