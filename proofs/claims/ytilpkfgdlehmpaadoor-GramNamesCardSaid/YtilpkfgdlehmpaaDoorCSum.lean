/- The walks of crc.step, More, Sum and of the document's shift, More, Sum: what they compute is 'more', on bit vectors. No condition on the bytes. -/
import Derived.Test.YtilpkfgdlehmpaaDoorRows
import Derived.Test.YtilpkfgdlehmpaaDoorCBv
namespace Go.Proofs.YtilpkfgdlehmpaaDoor.Crc
open Go.RowKit

/-- One bit's step. -/
def stp (x : BitVec 32) : BitVec 32 := (x >>> 1) ^^^ (0xEDB88320#32 &&& -(x &&& 1#32))
def stpN : Nat → BitVec 32 → BitVec 32
  | 0, x => x
  | k + 1, x => stp (stpN k x)
/-- The register behind k bytes. -/
def reg (s : BitVec 32) (c : Nat → BitVec 8) : Nat → BitVec 32
  | 0 => s
  | k + 1 => stpN 8 (reg s c k ^^^ (c k).setWidth 32)
def more (s : BitVec 32) (c : Nat → BitVec 8) (n : Nat) : BitVec 32 := ~~~ reg (~~~ s) c n

theorem one32 : (1 : Int) = U (1#32) := by decide +kernel
theorem poly32 : (3988292384 : Int) = U (0xEDB88320#32) := by decide +kernel
theorem max32 : (4294967295 : Int) = U (0xFFFFFFFF#32) := by decide +kernel

theorem lsb32 (x : BitVec 32) : x &&& 1#32 = if x.getLsbD 0 then 1#32 else 0#32 := by
  apply BitVec.eq_of_getLsbD_eq
  intro i hi
  by_cases h0 : i = 0
  · subst h0; cases h : x.getLsbD 0 <;> simp [h, -BitVec.getLsbD_eq_getElem]
  · have : (1#32).getLsbD i = false := by simp [BitVec.getLsbD_one, h0]
    rw [BitVec.getLsbD_and, this, Bool.and_false]
    split <;> simp [this]

theorem stp_if (x : BitVec 32) : stp x = if x.getLsbD 0 then (x >>> 1) ^^^ 0xEDB88320#32 else x >>> 1 := by
  unfold stp
  rw [lsb32]
  cases x.getLsbD 0
  · simp
  · simp only [if_true]
    rw [show (-1#32 : BitVec 32) = BitVec.allOnes 32 from by decide, BitVec.and_allOnes]

theorem mod2 (x : BitVec 32) : U x % 2 = if x.getLsbD 0 then 1 else 0 := by
  unfold U
  rw [BitVec.getLsbD, Nat.testBit_zero]
  have h : x.toNat % 2 = 0 ∨ x.toNat % 2 = 1 := by omega
  rcases h with h | h
  · rw [h]; simp; omega
  · rw [h]; simp; omega

theorem step_c (x : BitVec 32) (w : World) : Calls Tryd.prog 79 #[.int .u32 (U x)] w fun e w' => e = .returned (.int .u32 (U (stp x))) ∧ w = w' := by
  have h1 := U_nn x
  have h2 := U_lt32 x
  go_enter Tryd.func79, Tryd.ntmps79
  go_wp2
  go_ret
  exact ⟨ret_i (by rw [one32, and32, neg32, poly32, and32, half32, xor32]; rfl), rfl⟩

theorem shift_c (x : BitVec 32) (w : World) : Calls Tryd.prog 80 #[.int .u32 (U x)] w fun e w' => e = .returned (.int .u32 (U (stp x))) ∧ w = w' := by
  have h1 := U_nn x
  have h2 := U_lt32 x
  have hm := mod2 x
  have hs := stp_if x
  cases hb : x.getLsbD 0
  · rw [hb] at hm hs
    simp only [Bool.false_eq_true, if_false] at hm hs
    have hm' : (U x % 2 == 1) = false := by rw [hm]; rfl
    have hs' := Lib.hid hs
    clear hm hs hb
    go_enter Tryd.func80, Tryd.ntmps80
    go_wp2
    go_ret
    exact ⟨ret_i (by rw [hs'.out, half32]), rfl⟩
  · rw [hb] at hm hs
    simp only [if_true] at hm hs
    have hm' : (U x % 2 == 1) = true := by rw [hm]; rfl
    have hs' := Lib.hid hs
    clear hm hs hb
    go_enter Tryd.func80, Tryd.ntmps80
    go_wp2
    go_ret
    exact ⟨ret_i (by rw [hs'.out, half32, poly32, xor32]), rfl⟩

set_option maxHeartbeats 400000 in
theorem more_c (x : BitVec 32) (a : Option Addr) (len cap : Nat) (c : Nat → BitVec 8) (w : World) (hl : len ≤ 9223372036854775807)
    (hc : Rd w a len fun i => .int .u8 (U (c i))) : Calls Tryd.prog 70 #[.int .u32 (U x), .slice a len cap] w fun e w' => e = .returned (.int .u32 (U (more x c len))) ∧ w = w' := by
  have h1 := U_nn x
  have h2 := U_lt32 x
  have hc' := Lib.hid hc
  clear hc
  go_enter Tryd.func70, Tryd.ntmps70
  go_wp2
  rw [not32]
  go_loop [5, 12] (fun n i => ∃ k : Nat, k ≤ len ∧ i = .int .i64 k ∧ n = .int .u32 (U (reg (~~~x) c k))) (fun _ i => len - (intOf i).toNat)
  case atStart => exact ⟨0, by omega, rfl, rfl⟩
  case round =>
    obtain ⟨k, hk, rfl, rfl⟩ := hrel
    by_cases hlt : k < len
    · obtain ⟨b, o, rfl, hxk⟩ := hc'.out k hlt
      have h3 := U_nn (reg (~~~x) c k)
      have h4 := U_lt32 (reg (~~~x) c k)
      have h5 := U_nn (c k)
      have h6 := U_lt8 (c k)
      go_wp2_with fail
      rw [xor32_8]
      go_loop [5, 20] (fun n i => ∃ j : Nat, j ≤ 8 ∧ i = .int .i64 j ∧ n = .int .u32 (U (stpN j (reg (~~~x) c k ^^^ (c k).setWidth 32)))) (fun _ i => 8 - (intOf i).toNat)
      case atStart => exact ⟨0, by omega, rfl, rfl⟩
      case round =>
        obtain ⟨j, hj, rfl, rfl⟩ := hrel
        by_cases hjt : j < 8
        · go_wp2_with (go_at_call 79; refine (step_c _ _).mono ?_; rintro e w' ⟨rfl, rfl⟩)
          go_round
          case rel => exact ⟨j + 1, by omega, by go_num, rfl⟩
          case measure => simp [intOf]; omega
        · obtain rfl : j = 8 := by omega
          go_wp2_with fail
          go_round
          case rel => exact ⟨k + 1, by omega, by go_num, rfl⟩
          case measure => simp [intOf]; omega
    · obtain rfl : k = len := by omega
      go_wp2_with fail
      go_ret
      exact ⟨ret_i (not32 _), rfl⟩

theorem sum_c (a : Option Addr) (len cap : Nat) (c : Nat → BitVec 8) (w : World) (hl : len ≤ 9223372036854775807)
    (hc : Rd w a len fun i => .int .u8 (U (c i))) : Calls Tryd.prog 55 #[.slice a len cap] w fun e w' => e = .returned (.int .u32 (U (more 0#32 c len))) ∧ w = w' := by
  have hc' := Lib.hid hc
  clear hc
  go_enter Tryd.func55, Tryd.ntmps55
  go_wp2_with fail
  refine (more_c 0#32 a len cap c _ hl hc'.out).mono ?_
  rintro e w' ⟨rfl, rfl⟩
  go_wp2_with fail
  go_ret
  exact ⟨rfl, rfl⟩


/-! ### The document's way: bit by bit -/
theorem stp_xor (x y : BitVec 32) : stp (x ^^^ y) = stp x ^^^ stp y := by
  rw [stp_if, stp_if, stp_if, BitVec.getLsbD_xor, BitVec.ushiftRight_xor_distrib]
  cases x.getLsbD 0 <;> cases y.getLsbD 0
  · simp
  · simp [BitVec.xor_assoc]
  · simp only [Bool.xor_false, if_true, Bool.false_eq_true, if_false]
    rw [BitVec.xor_assoc, BitVec.xor_comm (y >>> 1), ← BitVec.xor_assoc]
  · simp only [Bool.xor_self, if_true, Bool.false_eq_true, if_false]
    rw [BitVec.xor_assoc, BitVec.xor_comm (y >>> 1), ← BitVec.xor_assoc 0xEDB88320#32, BitVec.xor_self, BitVec.zero_xor]

theorem stp_even (d : BitVec 32) : stp (d ^^^ (d &&& 1#32)) = d >>> 1 := by
  rw [stp_if]
  have h : (d ^^^ (d &&& 1#32)).getLsbD 0 = false := by
    rw [BitVec.getLsbD_xor, BitVec.getLsbD_and]; cases d.getLsbD 0 <;> simp
  rw [h, BitVec.ushiftRight_xor_distrib, BitVec.ushiftRight_and_distrib]
  simp

theorem bit_step (m d : BitVec 32) : stp (m ^^^ d ^^^ (d &&& 1#32)) = stp m ^^^ (d >>> 1) := by
  rw [BitVec.xor_assoc, stp_xor, stp_even]

theorem mod2_and (x : BitVec 32) : U x % 2 = U (x &&& 1#32) := by
  rw [mod2, lsb32]; split <;> rfl

theorem all_sub (x : BitVec 32) : 4294967295 - U x = U (~~~x) := by
  unfold U; rw [BitVec.toNat_not]; have := x.isLt; omega

theorem byte_gone (d : BitVec 8) : (d.setWidth 32) >>> 8 = 0#32 := by
  apply BitVec.eq_of_getLsbD_eq
  intro i hi
  simp [BitVec.getLsbD_ushiftRight, BitVec.getLsbD_setWidth]

set_option maxHeartbeats 400000 in
theorem refMore_c (x : BitVec 32) (a : Option Addr) (len cap : Nat) (c : Nat → BitVec 8) (w : World) (hl : len ≤ 9223372036854775807)
    (hc : Rd w a len fun i => .int .u8 (U (c i))) : Calls Tryd.prog 71 #[.int .u32 (U x), .slice a len cap] w fun e w' => e = .returned (.int .u32 (U (more x c len))) ∧ w = w' := by
  have h1 := U_nn x
  have h2 := U_lt32 x
  have hc' := Lib.hid hc
  clear hc
  go_enter Tryd.func71, Tryd.ntmps71
  go_wp2
  rw [all_sub]
  go_loop [5, 6] (fun n i => ∃ k : Nat, k ≤ len ∧ i = .int .i64 k ∧ n = .int .u32 (U (reg (~~~x) c k))) (fun _ i => len - (intOf i).toNat)
  case atStart => exact ⟨0, by omega, rfl, rfl⟩
  case round =>
    obtain ⟨k, hk, rfl, rfl⟩ := hrel
    by_cases hlt : k < len
    · obtain ⟨b, o, rfl, hxk⟩ := hc'.out k hlt
      have h5 := U_nn (c k)
      have h6 := U_lt8 (c k)
      go_wp2_with fail
      rw [wide8]
      go_loop [5, 7, 8] (fun n d i => ∃ j : Nat, j ≤ 8 ∧ i = .int .i64 j ∧ n = .int .u32 (U (stpN j (reg (~~~x) c k ^^^ (c k).setWidth 32) ^^^ ((c k).setWidth 32 >>> j))) ∧ d = .int .u32 (U ((c k).setWidth 32 >>> j))) (fun _ _ i => 8 - (intOf i).toNat)
      case atStart => exact ⟨0, by omega, rfl, by simp [stpN, BitVec.xor_assoc], by simp⟩
      case round =>
        obtain ⟨j, hj, rfl, rfl, rfl⟩ := hrel
        have h7 := U_nn ((c k).setWidth 32 >>> j)
        have h8 := U_lt32 ((c k).setWidth 32 >>> j)
        by_cases hjt : j < 8
        · go_wp2_with fail
          rw [mod2_and, xor32]
          refine (shift_c _ _).mono ?_
          rintro e w' ⟨rfl, rfl⟩
          go_wp2_with fail
          go_round
          case rel => exact ⟨j + 1, by omega, by go_num, by rw [bit_step, BitVec.shiftRight_add]; rfl, by rw [half32, BitVec.shiftRight_add]⟩
          case measure => simp [intOf]; omega
        · obtain rfl : j = 8 := by omega
          go_wp2_with fail
          go_round
          case rel => exact ⟨k + 1, by omega, by go_num, by rw [byte_gone, BitVec.xor_zero]; rfl⟩
          case measure => simp [intOf]; omega
    · obtain rfl : k = len := by omega
      have h3 := U_nn (reg (~~~x) c k)
      have h4 := U_lt32 (reg (~~~x) c k)
      go_wp2_with fail
      go_ret
      exact ⟨ret_i (all_sub _), rfl⟩

theorem refSum_c (a : Option Addr) (len cap : Nat) (c : Nat → BitVec 8) (w : World) (hl : len ≤ 9223372036854775807)
    (hc : Rd w a len fun i => .int .u8 (U (c i))) : Calls Tryd.prog 58 #[.slice a len cap] w fun e w' => e = .returned (.int .u32 (U (more 0#32 c len))) ∧ w = w' := by
  have hc' := Lib.hid hc
  clear hc
  go_enter Tryd.func58, Tryd.ntmps58
  go_wp2_with fail
  refine (refMore_c 0#32 a len cap c _ hl hc'.out).mono ?_
  rintro e w' ⟨rfl, rfl⟩
  go_wp2_with fail
  go_ret
  exact ⟨rfl, rfl⟩

end Go.Proofs.YtilpkfgdlehmpaaDoor.Crc
