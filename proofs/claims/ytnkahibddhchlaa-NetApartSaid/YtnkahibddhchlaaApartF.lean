/- The walk of NetApart, as the row asks it. -/
import Derived.Test.YtnkahibddhchlaaApartW
import Derived.Test.YtnkahibddhchlaaOpenArr
namespace Go.Proofs.Ytnkahibddhchlaa
open Go.RowKit
set_option linter.unusedVariables false

theorem walkApart (n room : Int) (a : Option Addr) (len cap : Nat) (f : Nat → OpI) (z : List Int) (w : World) (w0 : (Lit.int .i64 n).wf = true) (w1 : (Lit.int .i64 room).wf = true) (w2 : RdOps w a len f ∧ len ≤ 9223372036854775807 ∧ len ≤ cap) (hz : z.length = 2) (wz : ∀ x ∈ z, (Lit.int .i64 x).wf = true) :
    Calls Try.prog 5 #[.int .i64 n, .int .i64 room, .slice a len cap, .agg (z.map fun x => Value.int .i64 x).toArray] w fun r w' => r = .returned (.bool true) ∧ Below w.heap.size w w' := by
  obtain ⟨a0, a1, rfl⟩ : ∃ a0 a1, z = [a0, a1] := by
    match z, hz with
    | [x, y], _ => exact ⟨x, y, rfl⟩
  exact (apart_c n room a len cap f a0 a1 w (wz a0 (by simp)) (wz a1 (by simp)) w2.1 w2.2.1 w2.2.2).mono fun _ _ ⟨h1, h2⟩ => ⟨h1, h2.self_below⟩
end Go.Proofs.Ytnkahibddhchlaa
