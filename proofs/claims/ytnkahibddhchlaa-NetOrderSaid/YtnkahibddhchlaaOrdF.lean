/- The walk of NetOrder, as the row asks it. -/
import Derived.Test.YtnkahibddhchlaaOrdW
namespace Go.Proofs.Ytnkahibddhchlaa
open Go.RowKit
set_option linter.unusedVariables false

theorem walkOrder (room : Int) (a : Option Addr) (len cap : Nat) (f : Nat → InB) (x : Option Addr) (xl xc : Nat) (zs : List Int) (w : World) (w0 : (Lit.int .u8 room).wf = true) (w1 : RdRows w a len f ∧ len ≤ 9223372036854775807) (w2 : IsRow .u8 w x xl xc zs) :
    Calls Try.prog 4 #[.int .u8 room, .slice a len cap, .slice x xl xc] w fun r w' => r = .returned (.bool true) ∧ Below w.heap.size w w' :=
  (order_c room a len cap f x xl xc zs w (wf_u8 w0) w1.1 w1.2 w2).mono fun _ _ ⟨h1, h2⟩ => ⟨h1, h2.self_below⟩
end Go.Proofs.Ytnkahibddhchlaa
