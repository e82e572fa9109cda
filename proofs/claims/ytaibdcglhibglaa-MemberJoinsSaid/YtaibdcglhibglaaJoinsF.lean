/- The walk of MemberJoins, as the row asks it. -/
import Derived.Test.YtaibdcglhibglaaJoinsW
import Derived.Test.YtaibdcglhibglaaOpenA
namespace Go.Proofs.Ytaibdcglhibglaa
open Go.RowKit
set_option linter.unusedVariables false

theorem walkJoins (s : Int) (a : Option Addr) (len cap : Nat) (f : Nat → ActM) (w : World) (w1 : (Lit.int .u8 s).wf = true) (w0 : RdActs w a len f ∧ len ≤ 9223372036854775807) :
    Calls Try.prog 5 #[.int .u8 s, .slice a len cap] w fun r w' => r = .returned (.bool true) ∧ Below w.heap.size w w' :=
  (joins_c s a len cap f w w0.2 w0.1 (wf_b w1)).mono fun _ _ ⟨h1, h2⟩ => ⟨h1, h2.self_below⟩
end Go.Proofs.Ytaibdcglhibglaa
