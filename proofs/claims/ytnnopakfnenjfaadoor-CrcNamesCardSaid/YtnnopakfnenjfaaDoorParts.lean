/- The plain law of CrcParts: the sum of all bytes is that of the second ones behind the first ones' sum, and 8 m steps of the first sum, with the second one; and its walk. -/
import Derived.Test.YtnnopakfnenjfaaDoorAliveD
import Derived.Test.YtnnopakfnenjfaaDoorBoth
import Derived.Test.YtnnopakfnenjfaaDoorWf
import Derived.Lib.LaidTab
namespace Go.Proofs.YtnnopakfnenjfaaDoor
open Go.RowKit
set_option linter.unusedVariables false

theorem reg_split (v : BitVec 32) (c : Nat → BitVec 8) (n : Nat) : ∀ m, reg v c (n + m) = reg (reg v c n) (fun i => c (n + i)) m
  | 0 => rfl
  | m + 1 => by
    show stpN 8 (reg v c (n + m) ^^^ _) = stpN 8 (reg (reg v c n) _ m ^^^ _)
    rw [reg_split v c n m]
    rfl

theorem reg_xor (v d : BitVec 32) (c : Nat → BitVec 8) : ∀ m, reg (v ^^^ d) c m = reg v c m ^^^ stpN (8 * m) d
  | 0 => rfl
  | m + 1 => by
    show stpN 8 (reg (v ^^^ d) c m ^^^ _) = stpN 8 (reg v c m ^^^ _) ^^^ stpN (8 * (m + 1)) d
    rw [reg_xor v d c m, show 8 * (m + 1) = 8 + 8 * m from by omega, stpN_add, ← stpN_lin 8]
    congr 1
    rw [BitVec.xor_assoc, BitVec.xor_assoc, BitVec.xor_comm (stpN (8 * m) d)]

theorem more_more (x : BitVec 32) (c : Nat → BitVec 8) (n m : Nat) : more (more x c n) (fun i => c (n + i)) m = more x c (n + m) := by
  show ~~~ reg (~~~ (~~~ reg (~~~ x) c n)) _ m = ~~~ reg (~~~ x) c (n + m)
  rw [reg_split, BitVec.not_not]

theorem ones_bit : ∀ j : Fin 32, (4294967295#32).getLsbD j.val = true := by decide

theorem Rd.from {w : World} {a : Option Addr} {len cap n : Nat} {f : Nat → Value} (h : Rd w a len f) (hn : n ≤ len) (hcap : len ≤ cap) : Rd w (if cap = n then a else a.map (·.add n)) (len - n) (fun i => f (n + i)) := fun i hi => by
  obtain ⟨b, o, rfl, hc⟩ := h (n + i) (by omega)
  refine ⟨b, o + n, ?_, ?_⟩
  · rw [if_neg (by omega)]; simp [Addr.add]
  · rw [show o + n + i = o + (n + i) from by omega]; exact hc

theorem both_more (x : BitVec 32) (c : Nat → BitVec 8) (n m : Nat) : both (more x c n) (more 0#32 (fun i => c (n + i)) m) m = more x c (n + m) := by
  show stpN (8 * m) (~~~ reg (~~~ x) c n) ^^^ ~~~ reg (~~~ 0#32) _ m = ~~~ reg (~~~ x) c (n + m)
  rw [reg_split]
  have h : reg (~~~ x) c n = ~~~ 0#32 ^^^ ~~~ reg (~~~ x) c n := by
    generalize reg (~~~ x) c n = r
    ext i hi
    have : (4294967295#32)[i] = true := ones_bit ⟨i, hi⟩
    simp [this]
  conv => rhs; rw [h, reg_xor]
  generalize stpN (8 * m) _ = s
  generalize reg _ _ _ = t
  ext i hi
  simp [Bool.xor_comm]

theorem parts_long (a : Option Addr) (len cap : Nat) (a1 : Int) (w : World) (h5 : 5000 < (len : Int)) :
    Calls Tryd.prog 4 #[.slice a len cap, .int .u16 a1] w fun e w' => e = .returned (.bool true) ∧ Kp no w w' := by
  go_enter Tryd.func4, Tryd.ntmps4
  go_wp2_with fail
  refine (alive_c w).mono ?_
  rintro e w1 ⟨rfl, hk1⟩
  go_wp2_with fail
  go_ret
  exact ⟨rfl, hk1⟩

set_option maxRecDepth 100000 in
set_option maxHeartbeats 1000000 in
theorem parts_c (a : Option Addr) (len cap : Nat) (c : Nat → BitVec 8) (A : Nat) (w : World) (hm : ¬ 5000 < (len : Int)) (hA : A ≤ 65535) (hcap : len ≤ cap) (hcm : cap ≤ 9223372036854775807) (hn : a = none → cap = 0) (ht : Tab w) (hc : Rd w a len fun i => .int .u8 (U (c i))) :
    Calls Tryd.prog 4 #[.slice a len cap, .int .u16 A] w fun e w' => e = .returned (.bool true) ∧ Kp no w w' := by
  have hc' := Lib.hid hc
  have ht' := Lib.hid ht
  clear hc ht
  go_enter Tryd.func4, Tryd.ntmps4
  go_wp2_with fail
  refine (alive_c w).mono ?_
  rintro e w1 ⟨rfl, hk1⟩
  have hk1' := Lib.hid hk1
  clear hk1
  go_wp2_with fail
  obtain ⟨n, hp⟩ : ∃ n : Nat, (A : Int) % ((len : Int) + 1) = n := ⟨A % (len + 1), by push_cast; rfl⟩
  have hn1 : n ≤ len := by have := Int.emod_lt_of_pos (A : Int) (show 0 < (len : Int) + 1 by omega); omega
  rw [hp]
  clear hp
  obtain ⟨a2, ha2⟩ : ∃ a2, (if cap = n then a else a.map (·.add n)) = a2 := ⟨_, rfl⟩
  have q1 : ∀ W : World, (Instr.slice 22 (.slice a len cap) none (some (.int .i64 n)) none).run Tryd.prog W = .ok (.slice (if cap = 0 then a else a.map (·.add 0)) n cap) W := fun W => by
    rw [run_slice_h (P := Tryd.prog) (w := W) (t := 22) (a := a) (len := len) (cap := cap) (ht := by kernel_rfl) (kh := .i64) (h := n) (by omega) (by omega)]
    rw [show (sizeOf (Tryd.prog.elem 22)).run Tryd.prog W = .ok 1 W by kernel_rfl]
    simp [Result.andThen, sliced]
  have q2 : ∀ W : World, (Instr.slice 22 (.slice a len cap) (some (.int .i64 n)) none none).run Tryd.prog W = .ok (.slice a2 (len - n) (cap - n)) W := fun W => by
    rw [run_slice_l (P := Tryd.prog) (w := W) (t := 22) (a := a) (len := len) (cap := cap) (ht := by kernel_rfl) (kl := .i64) (l := n) (by omega) (by omega)]
    rw [show (sizeOf (Tryd.prog.elem 22)).run Tryd.prog W = .ok 1 W by kernel_rfl]
    simp [Result.andThen, sliced, ← ha2]
  have c1 := Rd.no hc'.out hk1'.out
  have s1 : ∀ W, (∃ m, W = w1.drewN m) → Calls Tryd.prog 6 #[.slice a n cap] W fun e w' => e = .returned (.int .u32 (U (more 0#32 c n))) ∧ w' = W := by
    rintro W ⟨m, rfl⟩
    exact (sum_c a n cap c _ (by omega) (Rd.no (c1.mono hn1) ((Kp.refl no _).drewN m))).mono fun _ _ h => ⟨h.1, h.2.symm⟩
  have s2 : ∀ W, (∃ m, W = w1.drewN m) → Calls Tryd.prog 6 #[.slice a2 (len - n) (cap - n)] W fun e w' => e = .returned (.int .u32 (U (more 0#32 (fun i => c (n + i)) (len - n)))) ∧ w' = W := by
    rintro W ⟨m, rfl⟩
    exact (sum_c _ _ _ (fun i => c (n + i)) _ (by omega) (Rd.no (ha2 ▸ c1.from hn1 hcap) ((Kp.refl no _).drewN m))).mono fun _ _ h => ⟨h.1, h.2.symm⟩
  have S1 := Lib.hid s1
  have S2 := Lib.hid s2
  have C1 := Lib.hid c1
  have HA2 := Lib.hid ha2
  clear s1 s2 c1 ha2
  go_quiet (first | exact Calls.quiet_of_same (S1.out _ ⟨_, rfl⟩) | exact Calls.quiet_of_same (S2.out _ ⟨_, rfl⟩))
  have hkq : Kp no w (w1.drewN nq) := hk1'.out.drewN nq
  have htq := ht'.out.no hkq
  have cq := Rd.no hc'.out hkq
  generalize w1.drewN nq = w2 at hkq htq cq ⊢
  have cq' := Lib.hid cq
  have htq' := Lib.hid htq
  clear cq htq S1 S2 C1
  go_wp2_with fail
  refine (sum_c a len cap c _ (by omega) cq'.out).mono ?_
  rintro e w' ⟨rfl, rfl⟩
  go_wp2_with fail
  refine (more_c _ _ _ _ (fun i => c (n + i)) _ (by omega) (HA2.out ▸ cq'.out.from hn1 hcap)).mono ?_
  rintro e w' ⟨rfl, rfl⟩
  rw [more_more, Nat.add_sub_cancel' hn1]
  go_wp2_with fail
  rw [show ((len : Int) - n) = ((len - n : Nat) : Int) from by omega]
  refine (both_c _ _ (len - n) (by omega) _ htq'.out).mono ?_
  rintro e w3 ⟨rfl, hk3⟩
  rw [both_more, Nat.add_sub_cancel' hn1]
  have hk4 := hkq.trans hk3
  go_wp2_with fail
  go_ret
  exact ⟨rfl, hk4⟩

theorem tab_of {w : World} (h : Lib.TabIs Tryd.prog w "math/bits.deBruijn32tab" .u8 tz32) : Tab w := fun i hi => h.cell (by kernel_rfl) i hi

theorem parts_w (a : Option Addr) (len cap : Nat) (z : List Int) (a1 : Int) (w : World) (h : IsRow .u8 w a len cap z) (w1 : (Lit.int .u16 a1).wf = true) (ht : Lib.TabIs Tryd.prog w "math/bits.deBruijn32tab" .u8 tz32) :
    Calls Tryd.prog 4 #[.slice a len cap, .int .u16 a1] w fun e w' => e = .returned (.bool true) ∧ Below w.heap.size w w' := by
  obtain ⟨c, hc⟩ := h.bytes
  obtain ⟨h1, h2, h3, _⟩ := h.len
  by_cases h5 : 5000 < (len : Int)
  · exact (parts_long a len cap a1 w h5).mono fun e w' hh => ⟨hh.1, hh.2.self_below⟩
  · have b1 := wf_u16 w1
    obtain ⟨A, rfl⟩ := Int.eq_ofNat_of_zero_le b1.1
    refine (parts_c a len cap c A w h5 (by omega) h1 (by simpa [maxLen] using h2) ?_ (tab_of ht) hc).mono fun e w' hh => ⟨hh.1, hh.2.self_below⟩
    rintro rfl
    rcases h with ⟨_, _, rfl, _⟩ | ⟨x, hx, _⟩
    · rfl
    · cases hx
end Go.Proofs.YtnnopakfnenjfaaDoor
