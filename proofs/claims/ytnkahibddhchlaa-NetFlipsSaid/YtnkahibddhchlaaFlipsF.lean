/- The walk of NetFlips, as the row asks it. -/
import Derived.Test.YtnkahibddhchlaaFlipsW
namespace Go.Proofs.Ytnkahibddhchlaa
open Go.RowKit
set_option linter.unusedVariables false

theorem walkFlips (a : Option Addr) (len cap : Nat) (f : Nat → InB) (z bit : Int) (w : World) (w0 : RdRows w a len f ∧ len ≤ 9223372036854775807) (w1 : (Lit.int .u8 z).wf = true) (w2 : (Lit.int .i64 bit).wf = true) :
    Calls Try.prog 3 #[.slice a len cap, .int .u8 z, .int .i64 bit] w fun r w' => r = .returned (.bool true) ∧ Below w.heap.size w w' :=
  (flips_c a len cap f z bit w (wf_u8 w1) w2 w0.1 w0.2).mono fun _ _ ⟨h1, h2⟩ => ⟨h1, h2.self_below⟩
end Go.Proofs.Ytnkahibddhchlaa
