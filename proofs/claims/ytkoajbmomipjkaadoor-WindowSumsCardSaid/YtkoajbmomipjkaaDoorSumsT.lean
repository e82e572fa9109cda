/- The law WindowSums, of what comes in. -/
import Derived.Test.YtkoajbmomipjkaaDoorSumsW
import Derived.Test.YtkoajbmomipjkaaDoorRoomT
namespace Go.Proofs.YtkoajbmomipjkaaDoor
open Go.RowKit
set_option linter.unusedVariables false

theorem walkSums (a0 a1 : Int) (a2 : Option Addr) (len2 cap2 : Nat) (z2 : List Int) (a3 : Option Addr) (len3 cap3 : Nat) (z3 : List Int) (w : World) (w0 : (Lit.int .u16 a0).wf = true) (w1 : (Lit.int .u16 a1).wf = true)
    (w2 : IsRow .u8 w a2 len2 cap2 z2) (w3 : IsRow .u8 w a3 len3 cap3 z3) (ht : Lib.TabIs Tryd.prog w "math/bits.deBruijn64tab" .u8 tz64) :
    Calls Tryd.prog 5 #[.int .u16 a0, .int .u16 a1, .slice a2 len2 cap2, .slice a3 len3 cap3] w fun e w' => e = .returned (.bool true) ∧ Below w.heap.size w w' := by
  obtain ⟨b0, b1⟩ := wf_u16 w0
  obtain ⟨c0, c1⟩ := wf_u16 w1
  obtain ⟨N, rfl⟩ : ∃ N : Nat, a0 = N := ⟨a0.toNat, by omega⟩
  obtain ⟨M, rfl⟩ : ∃ M : Nat, a1 = M := ⟨a1.toNat, by omega⟩
  exact (sums_walk N M (by omega) (by omega) a2 len2 cap2 z2 a3 len3 cap3 z3 w (tab_of ht) w2 w3).mono fun _ _ ⟨h1, h2⟩ => ⟨h1, h2.self_below⟩
end Go.Proofs.YtkoajbmomipjkaaDoor
