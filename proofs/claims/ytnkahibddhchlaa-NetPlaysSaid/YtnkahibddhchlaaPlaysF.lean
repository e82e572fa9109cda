/- The walk of NetPlays, as the row asks it. -/
import Derived.Test.YtnkahibddhchlaaPlaysX
namespace Go.Proofs.Ytnkahibddhchlaa
open Go.RowKit
set_option linter.unusedVariables false

theorem walkPlays (n room : Int) (a : Option Addr) (len cap : Nat) (f : Nat → OpI) (w : World) (w0 : (Lit.int .i64 n).wf = true) (w1 : (Lit.int .i64 room).wf = true) (w2 : RdOps w a len f ∧ len ≤ 9223372036854775807 ∧ len ≤ cap) :
    Calls Try.prog 7 #[.int .i64 n, .int .i64 room, .slice a len cap] w fun r w' => r = .returned (.bool true) ∧ Below w.heap.size w w' :=
  (plays_c n room a len cap f w w2.1 w2.2.1 w2.2.2).mono fun _ _ ⟨h1, h2⟩ => ⟨h1, h2.self_below⟩
end Go.Proofs.Ytnkahibddhchlaa
