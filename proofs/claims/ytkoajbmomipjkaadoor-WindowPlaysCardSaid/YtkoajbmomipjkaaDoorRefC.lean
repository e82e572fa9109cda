/- The walks of the reference's Meet, Told, Last, Numbers. -/
import Derived.Test.YtkoajbmomipjkaaDoorRefB
namespace Go.Proofs.YtkoajbmomipjkaaDoor
open Go.RowKit
set_option linter.unusedVariables false

theorem met_least {N M : Nat} {x y : BitVec 64} (h : ∀ k, metM N x k = true → metM M y k = true) : N ≤ M := by
  rcases Nat.lt_or_ge M N with h1 | h1
  · have h2 := h M (by unfold metM; rw [decide_eq_true h1]; rfl)
    unfold metM at h2
    rw [decide_eq_false (by omega : ¬ M < M)] at h2
    simp at h2
  · exact h1

set_option maxHeartbeats 4000000 in
theorem refMeet_c {N n : Nat} {x : BitVec 64} (hg : Good 4611686018427387904 N x) (hn : n ≤ 18446744073709551615) (w : World) :
    Calls Tryd.prog 30 #[.agg #[.int .u64 N, .int .u64 (U x)], .int .u64 n] w fun e w' =>
      ((roomM N n = false ∧ e = .returned (.tuple #[.agg #[.int .u64 N, .int .u64 (U x)], .bool false, .int .i64 190])) ∨
       (roomM N n = true ∧ e = .returned (.tuple #[.agg #[.int .u64 ((withM N x n).1 : Nat), .int .u64 (U (withM N x n).2)], .bool (!metM N x n), .int .i64 0]))) ∧ Kp no w w' := by
  have hNT := hg.next
  have hr := Lib.hid (fun V => refRoom_c (N : Int) (n : Int) (U x) (by omega) (by omega) V)
  have h1 := ((SL.start w).alloc [.int .u64 N, .int .u64 (U x)] 50).alloc [.int .u64 0, .int .u64 0] 50
  have hs1 : (w.alloc (.cells [Value.int .u64 N, .int .u64 (U x)].toArray 50)).heap.size = w.heap.size + 1 := by simp
  rw [hs1] at h1
  have hH := Lib.hid h1
  clear h1 hs1
  cases hq : roomM (N : Int) (n : Int) with
  | false =>
    rw [hq] at hr
    clear hNT hg hn hq
    go_enter Tryd.func30, Tryd.ntmps30
    go_wp2_with fail
    generalize (w.alloc (.cells #[.int .u64 N, .int .u64 (U x)] 50)).alloc (.cells #[.int .u64 0, .int .u64 0] 50) = w2 at *
    generalize w.heap.size + 1 = b4 at *
    generalize w.heap.size = b2 at *
    have c0 := hH.out.cell (o := 0) (.there (.here _ _)) rfl
    have c1 := hH.out.cell (o := 1) (.there (.here _ _)) rfl
    go_wp2_with fail
    refine (hr.out _).mono ?_
    rintro e w3 ⟨rfl, k3⟩
    have H3 := Lib.hid (hH.out.quiet k3)
    clear k3 hH hr c0 c1
    have c0 := H3.out.cell (o := 0) (.there (.here _ _)) rfl
    have c1 := H3.out.cell (o := 1) (.there (.here _ _)) rfl
    have z0 := H3.out.cell (o := 0) (.here _ _) rfl
    have z1 := H3.out.cell (o := 1) (.here _ _) rfl
    have fz := fun o => H3.out.free (.here _ _) o
    go_wp2_with fail
    have h4 := (H3.out.setCell 0 (.int .u64 N)).setCell 1 (.int .u64 (U x))
    generalize (w3.setCell ⟨b4, 0, none⟩ (.int .u64 N)).setCell ⟨b4, 1, none⟩ (.int .u64 (U x)) = w4 at *
    have k0 := h4.cell (o := 0) (.here _ _) rfl
    have k1 := h4.cell (o := 1) (.here _ _) rfl
    refine bodyPost_ret (v := .tuple #[.agg #[.int .u64 N, .int .u64 (U x)], .bool false, .int .i64 190]) ?_ rfl ?_
    · simp [results, Tryd.results30, go_sem, k0, k1]
    · exact ⟨.inl ⟨by trivial, rfl⟩, h4.kp (.there (.there (.here _ _)))⟩
  | true =>
    rw [hq] at hr
    have hlt : n < N + 64 := by
      unfold roomM at hq
      rw [Bool.and_eq_true, decide_eq_true_eq, decide_eq_true_eq] at hq
      omega
    have hh := Lib.hid (fun V => refHas_c N n x hn V)
    have hb0 := fun V => refBoth_c N x N x n true hNT hNT hg.top hg.top (by omega) V
    have hwm := with_met hg.full (by omega : n < N + 65)
    have hwt := with_top (N := N) hg.top hlt
    have hb : Hid (∀ V, Calls Tryd.prog 42 #[.agg #[.int .u64 N, .int .u64 (U x)], .agg #[.int .u64 N, .int .u64 (U x)], .int .u64 n, .bool true] V fun e w' => e = .returned (.agg #[.int .u64 ((withM N x n).1 : Nat), .int .u64 (U (withM N x n).2)]) ∧ Kp no V w') :=
      Lib.hid (fun V => (hb0 V).mono (by
        rintro e w' ⟨R, z, rfl, hz, hk, hkp⟩
        obtain ⟨e1, e2⟩ := met_inj hz hwt (fun k => by
          rw [hk k, hwm k]; unfold bothF
          cases metM N x k <;> simp)
        rw [e1, e2]
        exact ⟨rfl, hkp⟩))
    generalize withM N x n = z at *
    obtain ⟨R, z⟩ := z
    dsimp only at hb ⊢
    generalize metM N x n = mt at *
    clear hNT hg hn hq hb0 hwm hwt hlt
    go_enter Tryd.func30, Tryd.ntmps30
    go_wp2_with fail
    generalize (w.alloc (.cells #[.int .u64 N, .int .u64 (U x)] 50)).alloc (.cells #[.int .u64 0, .int .u64 0] 50) = w2 at *
    generalize w.heap.size + 1 = b4 at *
    generalize w.heap.size = b2 at *
    have c0 := hH.out.cell (o := 0) (.there (.here _ _)) rfl
    have c1 := hH.out.cell (o := 1) (.there (.here _ _)) rfl
    go_wp2_with fail
    refine (hr.out _).mono ?_
    rintro e w3 ⟨rfl, k3⟩
    have H3 := Lib.hid (hH.out.quiet k3)
    clear k3 hH hr c0 c1
    have c0 := H3.out.cell (o := 0) (.there (.here _ _)) rfl
    have c1 := H3.out.cell (o := 1) (.there (.here _ _)) rfl
    go_wp2_with fail
    refine (hh.out _).mono ?_
    rintro e w5 ⟨rfl, k3⟩
    have H5 := Lib.hid (H3.out.quiet k3)
    clear k3 H3 hh c0 c1
    have c0 := H5.out.cell (o := 0) (.there (.here _ _)) rfl
    have c1 := H5.out.cell (o := 1) (.there (.here _ _)) rfl
    go_wp2_with fail
    refine (hb.out _).mono ?_
    rintro e w6 ⟨rfl, k3⟩
    have h6 := (H5.out.quiet k3).alloc [.int .u64 R, .int .u64 (U z)] 50
    have H6 := Lib.hid h6
    clear k3 hb c0 c1 H5
    have z0 := h6.cell (o := 0) (.there (.here _ _)) rfl
    have z1 := h6.cell (o := 1) (.there (.here _ _)) rfl
    have fz := fun o => h6.free (.there (.here _ _)) o
    clear h6
    go_wp2_with fail
    have h7 := ((H6.out.re (L' := [.blk b4 [.int .u64 0, .int .u64 0] 50, .old w no]) (.step (.there (.here _ _)) (.drop (.drop (.same _))))).setCell 0 (.int .u64 R)).setCell 1 (.int .u64 (U z))
    generalize ((w6.alloc (.cells #[.int .u64 R, .int .u64 (U z)] 50)).setCell ⟨b4, 0, none⟩ (.int .u64 R)).setCell ⟨b4, 1, none⟩ (.int .u64 (U z)) = w7 at *
    have k0 := h7.cell (o := 0) (.here _ _) rfl
    have k1 := h7.cell (o := 1) (.here _ _) rfl
    refine bodyPost_ret (v := .tuple #[.agg #[.int .u64 R, .int .u64 (U z)], .bool (!mt), .int .i64 0]) ?_ rfl ?_
    · simp [results, Tryd.results30, go_sem, k0, k1]
    · exact ⟨.inr ⟨by trivial, rfl⟩, h7.kp (.there (.here _ _))⟩
end Go.Proofs.YtkoajbmomipjkaaDoor
