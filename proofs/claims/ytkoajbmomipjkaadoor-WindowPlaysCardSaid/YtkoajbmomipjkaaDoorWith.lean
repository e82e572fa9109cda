/- The walk of with. -/
import Derived.Test.YtkoajbmomipjkaaDoorFns
namespace Go.Proofs.YtkoajbmomipjkaaDoor
open Go.RowKit
set_option linter.unusedVariables false

set_option maxHeartbeats 2000000 in
theorem with_eq (N : Int) (x : BitVec 64) (r : Nat) (hr : IsLow (~~~x) r) (h0 : 0 ≤ N) (h1 : N ≤ 4611686018427389000) (w : World) (ht : Tab w) :
    Calls Tryd.prog 26 #[.agg #[.int .u64 N, .int .u64 (U x)], .int .u64 N] w fun e w' => e = .returned (.agg #[.int .u64 (N + 1 + r), .int .u64 (U (x >>> r >>> 1))]) ∧ Kp no w w' := by
  have ht' := Lib.hid ht
  have hr' := Lib.hid hr
  clear ht hr
  have H := ((SL.start w).alloc [.int .u64 N, .int .u64 (U x)] 58).alloc [.int .u64 0, .int .u64 0] 58
  have hb : (w.alloc (.cells [Value.int .u64 N, .int .u64 (U x)].toArray 58)).heap.size = w.heap.size + 1 := by simp
  rw [hb] at H
  have hH := Lib.hid H
  clear H hb
  go_enter Tryd.func26, Tryd.ntmps26
  go_wp2_with fail
  generalize (w.alloc (.cells #[Value.int .u64 N, .int .u64 (U x)] 58)).alloc (.cells #[Value.int .u64 0, .int .u64 0] 58) = w2 at *
  generalize w.heap.size + 1 = b2 at *
  generalize w.heap.size = b at *
  refine (settled_c N x r hr'.out h0 h1 w2 (ht'.out.no (hH.out.kp (.there (.there (.here _ _)))))).mono ?_
  rintro e w3 ⟨rfl, k3⟩
  have h3 := hH.out.quiet k3
  have g0 := h3.cell (o := 0) (.here _ _) rfl
  have g1 := h3.cell (o := 1) (.here _ _) rfl
  have hH3 := Lib.hid h3
  have hfz3 := fun o => h3.free (.here _ _) o
  clear h3 hH k3
  go_wp2_with fail
  have h4 := (hH3.out.setCell 0 (.int .u64 (N + 1 + r))).setCell 1 (.int .u64 (U (x >>> r >>> 1)))
  generalize (w3.setCell ⟨b2, 0, none⟩ (.int .u64 (N + 1 + r))).setCell ⟨b2, 1, none⟩ (.int .u64 (U (x >>> r >>> 1))) = w4 at *
  have k0 := h4.cell (o := 0) (.here _ _) rfl
  have k1 := h4.cell (o := 1) (.here _ _) rfl
  exact bodyPost_ret (v := .agg #[.int .u64 (N + 1 + r), .int .u64 (U (x >>> r >>> 1))]) (by simp [results, Tryd.results26, go_sem, k0, k1]) rfl ⟨rfl, h4.kp (.there (.there (.here _ _)))⟩

set_option maxHeartbeats 2000000 in
theorem with_less (N n : Int) (x : BitVec 64) (h : n < N) (w : World) (n0 : 0 ≤ n) :
    Calls Tryd.prog 26 #[.agg #[.int .u64 N, .int .u64 (U x)], .int .u64 n] w fun e w' => e = .returned (.agg #[.int .u64 N, .int .u64 (U x)]) ∧ Kp no w w' := by
  have H := ((SL.start w).alloc [.int .u64 N, .int .u64 (U x)] 58).alloc [.int .u64 0, .int .u64 0] 58
  have hb : (w.alloc (.cells [Value.int .u64 N, .int .u64 (U x)].toArray 58)).heap.size = w.heap.size + 1 := by simp
  rw [hb] at H
  have hH := Lib.hid H
  have e1 : (n == N) = false := by simp; omega
  have e2 : decide (N < n) = false := by simp; omega
  clear H hb
  go_enter Tryd.func26, Tryd.ntmps26
  go_wp2_with fail
  exact bodyPost_ret (v := .agg #[.int .u64 N, .int .u64 (U x)]) (by simp [results, Tryd.results26, go_sem]) rfl ⟨rfl, ((Kp.refl no w).alloc _).alloc _⟩

set_option maxHeartbeats 2000000 in
theorem with_more (N n : Int) (k : Nat) (x : BitVec 64) (hk : n = N + 1 + k) (hk64 : k < 64) (h0 : 0 ≤ N) (h1 : N ≤ 4611686018427389000) (w : World) :
    Calls Tryd.prog 26 #[.agg #[.int .u64 N, .int .u64 (U x)], .int .u64 n] w fun e w' => e = .returned (.agg #[.int .u64 N, .int .u64 (U (x ||| 1#64 <<< k))]) ∧ Kp no w w' := by
  have H := ((SL.start w).alloc [.int .u64 N, .int .u64 (U x)] 58).alloc [.int .u64 0, .int .u64 0] 58
  have hb : (w.alloc (.cells [Value.int .u64 N, .int .u64 (U x)].toArray 58)).heap.size = w.heap.size + 1 := by simp
  rw [hb] at H
  have hH := Lib.hid H
  have e1 : (n == N) = false := by simp; omega
  have e2 : decide (N < n) = true := by simp; omega
  have u1 : IntKind.u64.wrap (n - N) = n - N := by rw [IntKind.wrap_u64]; omega
  have u2 : IntKind.u64.wrap (n - N - 1) = k := by rw [IntKind.wrap_u64]; omega
  have u3 : n - N - 1 = k := by omega
  clear H hb hk
  go_enter Tryd.func26, Tryd.ntmps26
  go_wp2_with fail
  rw [pow64 hk64, or64]
  exact bodyPost_ret (v := .agg #[.int .u64 N, .int .u64 (U (x ||| 1#64 <<< k))]) (by simp [results, Tryd.results26, go_sem]) rfl ⟨rfl, ((Kp.refl no w).alloc _).alloc _⟩

theorem with_c (N n : Nat) (x : BitVec 64) (hx : ~~~x ≠ 0#64) (hN : (N : Int) ≤ 4611686018427389000) (hn : n < N + 65) (w : World) (ht : Tab w) :
    Calls Tryd.prog 26 #[.agg #[.int .u64 N, .int .u64 (U x)], .int .u64 n] w fun e w' => e = .returned (.agg #[.int .u64 ((withM N x n).1 : Int), .int .u64 (U (withM N x n).2)]) ∧ Kp no w w' := by
  unfold withM
  by_cases h1 : n = N
  · subst h1
    rw [if_pos rfl]
    have := with_eq (n : Int) x _ (lowIx_spec hx) (by omega) hN w ht
    simp only [Int.natCast_add, Int.natCast_one]
    exact this
  · rw [if_neg h1]
    by_cases h2 : N < n
    · rw [if_pos h2]
      exact with_more (N : Int) (n : Int) (n - N - 1) x (by omega) (by omega) (by omega) hN w
    · rw [if_neg h2]
      exact with_less (N : Int) (n : Int) x (by omega) w (by omega)
end Go.Proofs.YtkoajbmomipjkaaDoor
