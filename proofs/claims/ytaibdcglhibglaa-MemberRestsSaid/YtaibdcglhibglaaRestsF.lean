/- The walk of MemberRests, as the row asks it. -/
import Derived.Test.YtaibdcglhibglaaRestsW
import Derived.Test.YtaibdcglhibglaaOpenP
import Derived.Test.YtaibdcglhibglaaWf
namespace Go.Proofs.Ytaibdcglhibglaa
open Go.Joins Go.ChangeShapes Go.WideShapes Go.RowKit Go.Deep
set_option linter.unusedVariables false

theorem open_epoch {H : Type} {enc : TypeId × Value → H} {W : World} {base : Nat} {held : Bool} {r : Reach} {b0 : Nat} {v : Value} {d : DataW H} {p : List MemPlace} (hv : Value.okWide Try.prog W r b0 31 v) (h : DataW.Trod enc Try.prog W base (fun _ => true) held 31 v d p) :
    ∃ (N By : Int), v = .agg #[.int .u32 N, .int .i64 By] ∧ (0 ≤ N ∧ N ≤ 4294967295) := by
  obtain ⟨v0, v1, y0, y1, m, rfl, -, -, h0, h1⟩ := open_agg2 Try.underlying31 (by kernel_rfl) (by kernel_rfl) hv h
  obtain ⟨N, e1, -, hw⟩ := DataW.trod_int Try.underlying29 h0
  obtain ⟨By, e2, -, -⟩ := DataW.trod_int Try.underlying3 h1
  cases e1; cases e2
  exact ⟨N, By, rfl, wf_u32 hw⟩

theorem walkRests (a : Option Addr) (len cap : Nat) (f : Nat → OpIn) (s N By : Int) (w : World) (w0 : RdOps w a len f ∧ len ≤ 9223372036854775807) (w1 : (Lit.int .u8 s).wf = true) (w2 : 0 ≤ N ∧ N ≤ 4294967295) :
    Calls Try.prog 4 #[.slice a len cap, .int .u8 s, .agg #[.int .u32 N, .int .i64 By]] w fun r w' => r = .returned (.bool true) ∧ Below w.heap.size w w' :=
  (rests_c a len cap f s N By w w0.2 w0.1 (wf_b w1) w2).mono fun _ _ ⟨h1, h2⟩ => ⟨h1, h2.self_below⟩
end Go.Proofs.Ytaibdcglhibglaa
