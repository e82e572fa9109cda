/- The law WindowMet, of what comes in. -/
import Derived.Test.YtkoajbmomipjkaaDoorMetW
import Derived.Test.YtkoajbmomipjkaaDoorRoomT
namespace Go.Proofs.YtkoajbmomipjkaaDoor
open Go.RowKit
set_option linter.unusedVariables false

theorem walkMet (a0 : Int) (a1 : Option Addr) (len1 cap1 : Nat) (z1 : List Int) (w : World) (w0 : (Lit.int .u32 a0).wf = true) (w1 : IsRow .u16 w a1 len1 cap1 z1) (ht : Lib.TabIs Tryd.prog w "math/bits.deBruijn64tab" .u8 tz64) :
    Calls Tryd.prog 4 #[.int .u32 a0, .slice a1 len1 cap1] w fun e w' => e = .returned (.bool true) ∧ Below w.heap.size w w' := by
  obtain ⟨b0, b1⟩ := wf_u32 w0
  obtain ⟨N, rfl⟩ : ∃ N : Nat, a0 = N := ⟨a0.toNat, by omega⟩
  exact (met_walk N (by omega) a1 len1 cap1 z1 w (tab_of ht) w1).mono fun _ _ ⟨h1, h2⟩ => ⟨h1, h2.self_below⟩
end Go.Proofs.YtkoajbmomipjkaaDoor
