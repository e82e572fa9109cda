/- The walks of the laws' helpers: alive, move, sized. -/
import Derived.Test.YtamhlmfcnnomgaaSame
import Derived.Test.YtamhlmfcnnomgaaAll
namespace Go.Proofs.Ytamhlmfcnnomgaa
open Go.RowKit
set_option linter.unusedVariables false

theorem move_c (r f t a b : Int) (w : World) : Calls Try.prog 25 #[.int .i64 r, .int .i64 f, .int .i64 t, .int .i64 a, .int .i64 b] w fun e w' =>
    e = .returned (.agg #[.int .i64 r, .int .i64 f, .int .i64 t, .int .i64 a, .int .i64 b]) ∧ Kp no w w' := by
  go_enter Try.func25, Try.ntmps25
  go_wp2_with fail
  refine bodyPost_ret (v := .agg #[.int .i64 r, .int .i64 f, .int .i64 t, .int .i64 a, .int .i64 b]) (by simp [results, Try.results25, go_sem]) rfl ⟨rfl, ?_⟩
  exact (Kp.refl no _).alloc _

theorem all_alive : allOf 1 3 5 = [⟨0, 2, 0, 0, 5⟩, ⟨1, 0, 1, 2, 5⟩, ⟨1, 1, 0, 0, 2⟩] := by decide +kernel

theorem OwnK.rdM {w : World} {base : Nat} {a : Option Addr} {n cap : Nat} {l : List Mv} {e : TypeId} (h : OwnK w base e 5 (.slice a n cap) l.length (mvs l)) : RdM w a l := h.rd.2.1

theorem same_c (a b : Option Addr) (l k : List Mv) (n m ca cb : Nat) (w : World) (hn : n = l.length) (hm : m = k.length) (hl : l.length ≤ 1000000) (ha : RdM w a l) (hb : RdM w b k) :
    Calls Try.prog 18 #[.slice a n ca, .slice b m cb] w fun e w' => e = .returned (.bool (decide (l = k))) ∧ ∃ n, w' = w.drewN n := by
  subst hn; subst hm
  by_cases h : l.length = k.length
  · exact same_len a b l k ca cb w h hl ha hb
  · refine (same_lens a b _ _ ca cb w h).mono ?_
    rintro e w' ⟨rfl, rfl⟩
    exact ⟨ret_b (by symm; rw [decide_eq_false_iff_not]; rintro rfl; exact h rfl), 0, rfl⟩

set_option maxHeartbeats 1000000 in
theorem alive_c (w : World) : Calls Try.prog 10 #[] w fun e w' => e = .returned (.bool true) ∧ Kp no w w' := by
  have hA := fun w => all_c 1 3 5 w (by omega) (by omega) (by omega) (by omega)
  rw [all_alive] at hA
  have hA' := Lib.hid hA
  have hR := fun w => Rounds_c 1 5 w
  rw [if_pos (show okP 1 5 0 from by decide +kernel), show roundsOf (1 : Int).toNat (5 : Int).toNat = 3 from by decide +kernel] at hR
  have hR' := Lib.hid hR
  have hM1 := Lib.hid (fun w => move_c 0 2 0 0 5 w)
  have hM2 := Lib.hid (fun w => move_c 1 0 1 2 5 w)
  have hM3 := Lib.hid (fun w => move_c 1 1 0 0 2 w)
  clear hA hR
  go_enter Try.func10, Try.ntmps10
  go_wp2_with fail
  refine (hA'.out _).mono ?_
  rintro e w1 ⟨v, rfl, ho, k1⟩
  obtain ⟨a, cap, rfl, q1, q2, q3, q4, q5⟩ := ho.slice
  have ho' := Lib.hid ho
  have k1' := Lib.hid k1
  clear ho k1 q3 q4 q5
  go_wp2_with fail
  refine (hR'.out _).mono ?_
  rintro e w2 ⟨rfl, k2⟩
  have k2' := Lib.hid k2
  clear k2
  go_wp2_with fail
  refine (hM1.out _).mono ?_
  rintro e w3 ⟨rfl, k3⟩
  have k3' := Lib.hid k3
  clear k3
  go_wp2_with fail
  refine (hM2.out _).mono ?_
  rintro e w4 ⟨rfl, k4⟩
  have k4' := Lib.hid k4
  clear k4
  go_wp2_with fail
  refine (hM3.out _).mono ?_
  rintro e w5 ⟨rfl, k5⟩
  have k5' := Lib.hid k5
  clear k5
  go_wp2_with fail
  have kk := ((k2'.out.trans k3'.out).trans k4'.out).trans k5'.out
  have kk2 := kk.alloc (.cells #[.int .i64 0, .int .i64 2, .int .i64 0, .int .i64 0, .int .i64 5, .int .i64 1, .int .i64 0, .int .i64 1, .int .i64 2, .int .i64 5, .int .i64 1, .int .i64 1, .int .i64 0, .int .i64 0, .int .i64 2] 31)
  refine (same_c a (some ⟨w5.heap.size, 0, none⟩) [⟨0, 2, 0, 0, 5⟩, ⟨1, 0, 1, 2, 5⟩, ⟨1, 1, 0, 0, 2⟩] [⟨0, 2, 0, 0, 5⟩, ⟨1, 0, 1, 2, 5⟩, ⟨1, 1, 0, 0, 2⟩] 3 3 cap 3 _ rfl rfl (by simp) ((ho'.out.no kk2).rdM) (rd_newK w5 _ (mvs [⟨0, 2, 0, 0, 5⟩, ⟨1, 0, 1, 2, 5⟩, ⟨1, 1, 0, 0, 2⟩]))).mono ?_
  rintro e w6 ⟨rfl, d, rfl⟩
  rw [decide_eq_true rfl]
  go_wp2_with fail
  go_ret
  exact ⟨rfl, (k1'.out.trans kk2).drewN d⟩

theorem sized_c (mode p s : Int) (w : World) (m0 : 0 ≤ mode) (p0 : 0 ≤ p) (p1 : p ≤ 255) (s0 : 0 ≤ s) (s1 : s ≤ 65535) (m1 : mode ≤ 255) : Calls Try.prog 24 #[.int .u8 mode, .int .u8 p, .int .u16 s] w fun e w' =>
    e = .returned (.tuple #[.int .i64 (1 + mode % 2), .int .i64 (1 + p % 64), .int .i64 (s % 4097)]) ∧ w = w' := by
  go_enter Try.func24, Try.ntmps24
  go_wp2_with fail
  go_ret3
  exact ⟨rfl, rfl⟩
end Go.Proofs.Ytamhlmfcnnomgaa
