/- The walk of MemberPlays, as the row asks it. -/
import Derived.Test.YtaibdcglhibglaaPlaysW
import Derived.Test.YtaibdcglhibglaaOpenP
namespace Go.Proofs.Ytaibdcglhibglaa
open Go.RowKit
set_option linter.unusedVariables false

theorem walkPlays (self nodes disp : Int) (a : Option Addr) (len cap : Nat) (f : Nat → OpIn) (w : World) (w0 : (Lit.int .i64 self).wf = true) (w1 : (Lit.int .i64 nodes).wf = true) (w2 : (Lit.int .i64 disp).wf = true) (w3 : RdOps w a len f ∧ len ≤ 9223372036854775807) :
    Calls Try.prog 6 #[.int .i64 self, .int .i64 nodes, .int .i64 disp, .slice a len cap] w fun r w' => r = .returned (.bool true) ∧ Below w.heap.size w w' :=
  (plays_c self nodes disp a len cap f w w3.2 w3.1).mono fun _ _ ⟨h1, h2⟩ => ⟨h1, h2.self_below⟩
end Go.Proofs.Ytaibdcglhibglaa
