/- The law WindowRoom, of what comes in. -/
import Derived.Test.YtkoajbmomipjkaaDoorRoomW
import Derived.Test.YtkoajbmomipjkaaDoorWf
import Derived.Lib.LaidTab
namespace Go.Proofs.YtkoajbmomipjkaaDoor
open Go.RowKit
set_option linter.unusedVariables false

theorem tab_of {w : World} (h : Lib.TabIs Tryd.prog w "math/bits.deBruijn64tab" .u8 tz64) : Tab w := fun i hi => h.cell (by kernel_rfl) i hi

theorem walkRoom (a b c : Int) (w : World) (w0 : (Lit.int .u64 a).wf = true) (w1 : (Lit.int .u64 b).wf = true) (w2 : (Lit.int .u64 c).wf = true) (ht : Lib.TabIs Tryd.prog w "math/bits.deBruijn64tab" .u8 tz64) :
    Calls Tryd.prog 3 #[.int .u64 a, .int .u64 b, .int .u64 c] w fun e w' => e = .returned (.bool true) ∧ Below w.heap.size w w' := by
  obtain ⟨a0, a1⟩ := wf_u64 w0
  obtain ⟨b0, b1⟩ := wf_u64 w1
  obtain ⟨c0, c1⟩ := wf_u64 w2
  obtain ⟨N, rfl⟩ : ∃ N : Nat, a = N := ⟨a.toNat, by omega⟩
  obtain ⟨n, rfl⟩ : ∃ n : Nat, c = n := ⟨c.toNat, by omega⟩
  have hb : b = U (BitVec.ofInt 64 b) := (U_of 64 b b0 (by omega)).symm
  rw [hb]
  exact (roomLaw N n _ w (tab_of ht)).mono fun _ _ ⟨h1, h2⟩ => ⟨h1, h2.self_below⟩
end Go.Proofs.YtkoajbmomipjkaaDoor
