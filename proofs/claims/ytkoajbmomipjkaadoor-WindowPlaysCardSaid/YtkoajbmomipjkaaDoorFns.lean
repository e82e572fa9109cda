/- The walks of a state's functions: settled, with. -/
import Derived.Test.YtkoajbmomipjkaaDoorBv64
import Derived.Test.YtkoajbmomipjkaaDoorSL
import Derived.ProofKit
import Derived.Deep.QuietTactic
import Derived.BigQuiet
import Derived.IntWalk
import Derived.StillTailTactics
namespace Go.Proofs.YtkoajbmomipjkaaDoor
open Go.RowKit
set_option linter.unusedVariables false

set_option maxHeartbeats 2000000 in
theorem settled_c (N : Int) (x : BitVec 64) (r : Nat) (hr : IsLow (~~~x) r) (h0 : 0 ≤ N) (h1 : N ≤ 4611686018427389000) (w : World) (ht : Tab w) :
    Calls Tryd.prog 39 #[.agg #[.int .u64 N, .int .u64 (U x)]] w fun e w' => e = .returned (.agg #[.int .u64 (N + 1 + r), .int .u64 (U (x >>> r >>> 1))]) ∧ Kp no w w' := by
  have hr' := Lib.hid hr
  have ht' := Lib.hid ht
  have hr64 : r < 64 := hr.1
  clear hr ht
  go_enter Tryd.func39, Tryd.ntmps39
  go_wp2_with fail
  rw [not64]
  refine (tz_c (~~~x) r hr'.out _ (ht'.out.no (((Kp.refl no w).alloc _).alloc _))).mono ?_
  rintro e w' ⟨rfl, rfl⟩
  have u1 : IntKind.u64.wrap (N + 1) = N + 1 := by rw [IntKind.wrap_u64]; omega
  have u2 : IntKind.u64.wrap (r : Int) = r := by rw [IntKind.wrap_u64]; omega
  have u3 : IntKind.u64.wrap (N + 1 + r) = N + 1 + r := by rw [IntKind.wrap_u64]; omega
  have H := ((SL.start w).alloc [.int .u64 N, .int .u64 (U x)] 58).alloc [.int .u64 0, .int .u64 0] 58
  have hb : (w.alloc (.cells [Value.int .u64 N, .int .u64 (U x)].toArray 58)).heap.size = w.heap.size + 1 := by simp
  rw [hb] at H
  have hH := Lib.hid H
  clear H hb
  go_wp2_with fail
  generalize (w.alloc (.cells #[Value.int .u64 N, .int .u64 (U x)] 58)).alloc (.cells #[Value.int .u64 0, .int .u64 0] 58) = w2 at *
  have c0 := hH.out.cell (o := 0) (.there (.here _ _)) rfl
  have c1 := hH.out.cell (o := 1) (.there (.here _ _)) rfl
  have hfz := fun o => hH.out.free (.here _ _) o
  generalize w.heap.size + 1 = b2 at *
  generalize w.heap.size = b at *
  go_still_tail 12, (by kernel_rfl)
  rw [shr64 x r, half64 (x >>> r)]
  change wpList _ _ _ _ _ w2.drew
  have h3 := hH.out.drew
  have g0 := h3.cell (o := 0) (.here _ _) rfl
  have g1 := h3.cell (o := 1) (.here _ _) rfl
  have hH3 := Lib.hid h3
  have hfz3 := fun o => h3.free (.here _ _) o
  clear hfz h3 hH c0 c1
  generalize w2.drew = w3 at *
  go_wp2_with fail
  have h4 := (hH3.out.setCell 0 (.int .u64 (N + 1 + r))).setCell 1 (.int .u64 (U (x >>> r >>> 1)))
  generalize (w3.setCell ⟨b2, 0, none⟩ (.int .u64 (N + 1 + r))).setCell ⟨b2, 1, none⟩ (.int .u64 (U (x >>> r >>> 1))) = w4 at *
  have k0 := h4.cell (o := 0) (.here _ _) rfl
  have k1 := h4.cell (o := 1) (.here _ _) rfl
  exact bodyPost_ret (v := .agg #[.int .u64 (N + 1 + r), .int .u64 (U (x >>> r >>> 1))]) (by simp [results, Tryd.results39, go_sem, k0, k1]) rfl ⟨rfl, h4.kp (.there (.there (.here _ _)))⟩
end Go.Proofs.YtkoajbmomipjkaaDoor
