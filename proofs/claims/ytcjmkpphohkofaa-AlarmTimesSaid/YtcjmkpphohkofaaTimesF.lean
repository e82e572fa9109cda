/- The walk of AlarmTimes, as the row asks it. -/
import Derived.Test.YtcjmkpphohkofaaTimesW
namespace Go.Proofs.Ytcjmkpphohkofaa
open Go.RowKit
set_option linter.unusedVariables false

theorem wf_u16 {z : Int} (h : (Lit.int .u16 z).wf = true) : 0 ≤ z ∧ z ≤ 65535 := by
  simp [Lit.wf, IntKind.min, IntKind.max, IntKind.signed, IntKind.bits] at h
  omega
theorem walkTimes (fi lo : Int) (x : Option Addr) (xl xc : Nat) (zs : List Int) (many : Int) (w : World) (w0 : (Lit.int .u8 fi).wf = true) (w1 : (Lit.int .u8 lo).wf = true) (w2 : IsRow .u8 w x xl xc zs) (w3 : (Lit.int .u16 many).wf = true) :
    Calls Try.prog 3 #[.int .u8 fi, .int .u8 lo, .slice x xl xc, .int .u16 many] w fun r w' => r = .returned (.bool true) ∧ Below w.heap.size w w' :=
  (times_c fi lo x xl xc zs many w (wf_u8 w0) (wf_u8 w1) w2 (wf_u16 w3)).mono fun _ _ ⟨h1, h2⟩ => ⟨h1, h2.self_below⟩
end Go.Proofs.Ytcjmkpphohkofaa
