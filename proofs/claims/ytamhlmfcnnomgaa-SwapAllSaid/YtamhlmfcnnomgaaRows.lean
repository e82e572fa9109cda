/-
  No cell of these rows narrows 'for every input' (looked for: loops, veiled, ifaces, maps, wideKeys, modest, calm, conditions, laid).
  DERIVED. THE GIVEN ROWS OF THIS SEAT. 7 by the template 'for every input the law returns true; each argument reads behind the call as it read before'; 0 by the template 'total and deterministic' (their statements: YtamhlmfcnnomgaaTotals.lean).
  GIVEN WITH THE SEED: the statements are not yours to turn. If you find one false, say at which input.
  Laid BY PROGRAM, IN A SANDBOX (cutbox-rows.mjs): the forced cells as the released guide's own fill.sh prints them over the translation b4f7f8d7d1a4e89c… (all of the seat's roots in one cut). By AI agents, Wed Nov 11 2026. No macro, syntax, notation, axiom, sorry.
-/
import Derived.Test.YtamhlmfcnnomgaaChecked
import GoSem.Claim
import GoSem.ClaimJoined
import GoSem.ClaimMapViews
import Derived.JoinedTies
import Derived.KernelRfl
namespace Go.Proofs.Ytamhlmfcnnomgaa
/- THE CELL 'sum', in the pinned program and in every row, IS THE sha256 OF THE DUMP (.gsa) THAT YtamhlmfcnnomgaaProg.lean LOADS. Nothing in Lean hashes anything: it is a label: what it is worth is what the hold of that sum in a sandbox is worth. -/
noncomputable def Try.pinned : Pinned := { name := "ytamhlmfcnnomgaa", sum := "b4f7f8d7d1a4e89cef238c17bbfed6d06ec8079761dff97259a9d2fa8257015f", checked := Try.checked }
namespace Rows
def none {H : Type} : Left H := { results := [], args := [] }

/-- 'mullionlaw26.SwapCosts': WHATEVER THE INPUT: true; the input reads as it did. -/
def swapCostsSpec : ChangeSpec := { name := "swapCosts", fn := fun _ => fun
  | [d1, d2] => { results := [.lit (.bool true)], args := [d1, d2] }
  | _ => none }
def swapCostsRow : OpenClaim := { program := "ytamhlmfcnnomgaa", sum := "b4f7f8d7d1a4e89cef238c17bbfed6d06ec8079761dff97259a9d2fa8257015f", func := "mullion/mullionlaw26.SwapCosts", spec := "swapCosts", unfollowed := true, recurses := true, apart := false }
def SwapCostsSaid : Prop := swapCostsRow.holds Try.pinned (OpenSpec.ofChange swapCostsSpec)

/-- ITS FALSE NEIGHBOUR: 'it returns false'. Refute it at one input. -/
def swapCostsWrong : ChangeSpec := { name := "swapCosts", fn := fun _ => fun
  | [d1, d2] => { results := [.lit (.bool false)], args := [d1, d2] }
  | _ => none }
def SwapCostsWrongFalsely : Prop := swapCostsRow.holds Try.pinned (OpenSpec.ofChange swapCostsWrong)

/-- 'mullionlaw26.SwapAll': WHATEVER THE INPUT: true; the input reads as it did. -/
def swapAllSpec : ChangeSpec := { name := "swapAll", fn := fun _ => fun
  | [d1, d2, d3] => { results := [.lit (.bool true)], args := [d1, d2, d3] }
  | _ => none }
def swapAllRow : OpenClaim := { program := "ytamhlmfcnnomgaa", sum := "b4f7f8d7d1a4e89cef238c17bbfed6d06ec8079761dff97259a9d2fa8257015f", func := "mullion/mullionlaw26.SwapAll", spec := "swapAll", unfollowed := true, recurses := true, apart := false }
def SwapAllSaid : Prop := swapAllRow.holds Try.pinned (OpenSpec.ofChange swapAllSpec)

/-- ITS FALSE NEIGHBOUR: 'it returns false'. Refute it at one input. -/
def swapAllWrong : ChangeSpec := { name := "swapAll", fn := fun _ => fun
  | [d1, d2, d3] => { results := [.lit (.bool false)], args := [d1, d2, d3] }
  | _ => none }
def SwapAllWrongFalsely : Prop := swapAllRow.holds Try.pinned (OpenSpec.ofChange swapAllWrong)

/-- 'mullionlaw26.SwapMoves': WHATEVER THE INPUT: true; the input reads as it did. -/
def swapMovesSpec : ChangeSpec := { name := "swapMoves", fn := fun _ => fun
  | [d] => { results := [.lit (.bool true)], args := [d] }
  | _ => none }
def swapMovesRow : OpenClaim := { program := "ytamhlmfcnnomgaa", sum := "b4f7f8d7d1a4e89cef238c17bbfed6d06ec8079761dff97259a9d2fa8257015f", func := "mullion/mullionlaw26.SwapMoves", spec := "swapMoves", unfollowed := true, recurses := true, apart := false }
def SwapMovesSaid : Prop := swapMovesRow.holds Try.pinned (OpenSpec.ofChange swapMovesSpec)

/-- ITS FALSE NEIGHBOUR: 'it returns false'. Refute it at one input. -/
def swapMovesWrong : ChangeSpec := { name := "swapMoves", fn := fun _ => fun
  | [d] => { results := [.lit (.bool false)], args := [d] }
  | _ => none }
def SwapMovesWrongFalsely : Prop := swapMovesRow.holds Try.pinned (OpenSpec.ofChange swapMovesWrong)

/-- 'mullionlaw26.SwapPairs': WHATEVER THE INPUT: true; the input reads as it did. -/
def swapPairsSpec : ChangeSpec := { name := "swapPairs", fn := fun _ => fun
  | [d1, d2, d3, d4] => { results := [.lit (.bool true)], args := [d1, d2, d3, d4] }
  | _ => none }
def swapPairsRow : OpenClaim := { program := "ytamhlmfcnnomgaa", sum := "b4f7f8d7d1a4e89cef238c17bbfed6d06ec8079761dff97259a9d2fa8257015f", func := "mullion/mullionlaw26.SwapPairs", spec := "swapPairs", unfollowed := true, recurses := true, apart := false }
def SwapPairsSaid : Prop := swapPairsRow.holds Try.pinned (OpenSpec.ofChange swapPairsSpec)

/-- ITS FALSE NEIGHBOUR: 'it returns false'. Refute it at one input. -/
def swapPairsWrong : ChangeSpec := { name := "swapPairs", fn := fun _ => fun
  | [d1, d2, d3, d4] => { results := [.lit (.bool false)], args := [d1, d2, d3, d4] }
  | _ => none }
def SwapPairsWrongFalsely : Prop := swapPairsRow.holds Try.pinned (OpenSpec.ofChange swapPairsWrong)

/-- 'mullionlaw26.SwapWhole': WHATEVER THE INPUT: true; the input reads as it did. -/
def swapWholeSpec : ChangeSpec := { name := "swapWhole", fn := fun _ => fun
  | [d1, d2, d3] => { results := [.lit (.bool true)], args := [d1, d2, d3] }
  | _ => none }
def swapWholeRow : OpenClaim := { program := "ytamhlmfcnnomgaa", sum := "b4f7f8d7d1a4e89cef238c17bbfed6d06ec8079761dff97259a9d2fa8257015f", func := "mullion/mullionlaw26.SwapWhole", spec := "swapWhole", unfollowed := true, recurses := true, apart := false }
def SwapWholeSaid : Prop := swapWholeRow.holds Try.pinned (OpenSpec.ofChange swapWholeSpec)

/-- ITS FALSE NEIGHBOUR: 'it returns false'. Refute it at one input. -/
def swapWholeWrong : ChangeSpec := { name := "swapWhole", fn := fun _ => fun
  | [d1, d2, d3] => { results := [.lit (.bool false)], args := [d1, d2, d3] }
  | _ => none }
def SwapWholeWrongFalsely : Prop := swapWholeRow.holds Try.pinned (OpenSpec.ofChange swapWholeWrong)

/-- 'mullionlaw26.SwapHolds': WHATEVER THE INPUT: true; the input reads as it did. -/
def swapHoldsSpec : ChangeSpec := { name := "swapHolds", fn := fun _ => fun
  | [d1, d2, d3, d4, d5] => { results := [.lit (.bool true)], args := [d1, d2, d3, d4, d5] }
  | _ => none }
def swapHoldsRow : OpenClaim := { program := "ytamhlmfcnnomgaa", sum := "b4f7f8d7d1a4e89cef238c17bbfed6d06ec8079761dff97259a9d2fa8257015f", func := "mullion/mullionlaw26.SwapHolds", spec := "swapHolds", unfollowed := true, recurses := true, apart := false }
def SwapHoldsSaid : Prop := swapHoldsRow.holds Try.pinned (OpenSpec.ofChange swapHoldsSpec)

/-- ITS FALSE NEIGHBOUR: 'it returns false'. Refute it at one input. -/
def swapHoldsWrong : ChangeSpec := { name := "swapHolds", fn := fun _ => fun
  | [d1, d2, d3, d4, d5] => { results := [.lit (.bool false)], args := [d1, d2, d3, d4, d5] }
  | _ => none }
def SwapHoldsWrongFalsely : Prop := swapHoldsRow.holds Try.pinned (OpenSpec.ofChange swapHoldsWrong)

/-- 'mullionlaw26.SwapNames': WHATEVER THE INPUT: true; the input reads as it did. -/
def swapNamesSpec : ChangeSpec := { name := "swapNames", fn := fun _ => fun
  | [] => { results := [.lit (.bool true)], args := [] }
  | _ => none }
def swapNamesRow : OpenClaim := { program := "ytamhlmfcnnomgaa", sum := "b4f7f8d7d1a4e89cef238c17bbfed6d06ec8079761dff97259a9d2fa8257015f", func := "mullion/mullionlaw26.SwapNames", spec := "swapNames", unfollowed := true, recurses := true, apart := false }
def SwapNamesSaid : Prop := swapNamesRow.holds Try.pinned (OpenSpec.ofChange swapNamesSpec)

/-- ITS FALSE NEIGHBOUR: 'it returns false'. Refute it at one input. -/
def swapNamesWrong : ChangeSpec := { name := "swapNames", fn := fun _ => fun
  | [] => { results := [.lit (.bool false)], args := [] }
  | _ => none }
def SwapNamesWrongFalsely : Prop := swapNamesRow.holds Try.pinned (OpenSpec.ofChange swapNamesWrong)

/- THE SECOND FORM. 'bulk': how many values and letters a reading holds, each counted each time it is reached (what is shared counts as often as it is met; a slice's spare places count too). A statement '..UptoSaid' is the law's where the arguments, and the package variables that the reading takes, are together of bulk at most 1048576: NARROWER than '..Said'. Prove '..Said' where nothing that the law and all that it calls make is longer than what came in: it says more and counts as full. Else prove '..UptoSaid'. A law counts once. -/
mutual
def uptoBulk {H : Type} : DataW H → Nat
  | .lit (.string bytes) => bytes.length + 1
  | .lit _ => 1
  | .nil => 1
  | .ptr d => uptoBulk d + 1
  | .slice elems spare => uptoBulkAll elems + uptoBulkAll spare + 1
  | .agg parts => uptoBulkAll parts + 1
  | .iface _ d => uptoBulk d + 1
  | .map entries => uptoBulkEntries entries + 1
  | .held _ => 1
def uptoBulkAll {H : Type} : List (DataW H) → Nat
  | [] => 0
  | d :: r => uptoBulk d + uptoBulkAll r
def uptoBulkEntries {H : Type} : List (Lit × DataW H) → Nat
  | [] => 0
  | x :: r => uptoBulkEntry x + uptoBulkEntries r
def uptoBulkEntry {H : Type} : Lit × DataW H → Nat
  | (.string bytes, d) => bytes.length + uptoBulk d + 1
  | (_, d) => uptoBulk d + 1
 end
def uptoSmall : (H : Type) → List (DataW H) → Bool := fun _ ds => decide (uptoBulkAll ds ≤ 1048576)
def OpenSpec.upto (s : _root_.Go.ChangeSpec) : _root_.Go.OpenSpec := { _root_.Go.OpenSpec.ofChange s with cond := some uptoSmall }

/-- 'mullionlaw26.SwapCosts', WHERE WHAT IT READS IS OF BULK AT MOST 1048576: true; the input reads as it did. -/
def swapCostsUptoRow : OpenClaim := { program := "ytamhlmfcnnomgaa", sum := "b4f7f8d7d1a4e89cef238c17bbfed6d06ec8079761dff97259a9d2fa8257015f", func := "mullion/mullionlaw26.SwapCosts", spec := "swapCosts", unfollowed := true, recurses := true, apart := false, narrowed := true }
def SwapCostsUptoSaid : Prop := swapCostsUptoRow.holds Try.pinned (OpenSpec.upto swapCostsSpec)

/-- 'mullionlaw26.SwapAll', WHERE WHAT IT READS IS OF BULK AT MOST 1048576: true; the input reads as it did. -/
def swapAllUptoRow : OpenClaim := { program := "ytamhlmfcnnomgaa", sum := "b4f7f8d7d1a4e89cef238c17bbfed6d06ec8079761dff97259a9d2fa8257015f", func := "mullion/mullionlaw26.SwapAll", spec := "swapAll", unfollowed := true, recurses := true, apart := false, narrowed := true }
def SwapAllUptoSaid : Prop := swapAllUptoRow.holds Try.pinned (OpenSpec.upto swapAllSpec)

/-- 'mullionlaw26.SwapMoves', WHERE WHAT IT READS IS OF BULK AT MOST 1048576: true; the input reads as it did. -/
def swapMovesUptoRow : OpenClaim := { program := "ytamhlmfcnnomgaa", sum := "b4f7f8d7d1a4e89cef238c17bbfed6d06ec8079761dff97259a9d2fa8257015f", func := "mullion/mullionlaw26.SwapMoves", spec := "swapMoves", unfollowed := true, recurses := true, apart := false, narrowed := true }
def SwapMovesUptoSaid : Prop := swapMovesUptoRow.holds Try.pinned (OpenSpec.upto swapMovesSpec)

/-- 'mullionlaw26.SwapPairs', WHERE WHAT IT READS IS OF BULK AT MOST 1048576: true; the input reads as it did. -/
def swapPairsUptoRow : OpenClaim := { program := "ytamhlmfcnnomgaa", sum := "b4f7f8d7d1a4e89cef238c17bbfed6d06ec8079761dff97259a9d2fa8257015f", func := "mullion/mullionlaw26.SwapPairs", spec := "swapPairs", unfollowed := true, recurses := true, apart := false, narrowed := true }
def SwapPairsUptoSaid : Prop := swapPairsUptoRow.holds Try.pinned (OpenSpec.upto swapPairsSpec)

/-- 'mullionlaw26.SwapWhole', WHERE WHAT IT READS IS OF BULK AT MOST 1048576: true; the input reads as it did. -/
def swapWholeUptoRow : OpenClaim := { program := "ytamhlmfcnnomgaa", sum := "b4f7f8d7d1a4e89cef238c17bbfed6d06ec8079761dff97259a9d2fa8257015f", func := "mullion/mullionlaw26.SwapWhole", spec := "swapWhole", unfollowed := true, recurses := true, apart := false, narrowed := true }
def SwapWholeUptoSaid : Prop := swapWholeUptoRow.holds Try.pinned (OpenSpec.upto swapWholeSpec)

/-- 'mullionlaw26.SwapHolds', WHERE WHAT IT READS IS OF BULK AT MOST 1048576: true; the input reads as it did. -/
def swapHoldsUptoRow : OpenClaim := { program := "ytamhlmfcnnomgaa", sum := "b4f7f8d7d1a4e89cef238c17bbfed6d06ec8079761dff97259a9d2fa8257015f", func := "mullion/mullionlaw26.SwapHolds", spec := "swapHolds", unfollowed := true, recurses := true, apart := false, narrowed := true }
def SwapHoldsUptoSaid : Prop := swapHoldsUptoRow.holds Try.pinned (OpenSpec.upto swapHoldsSpec)

/-- 'mullionlaw26.SwapNames', WHERE WHAT IT READS IS OF BULK AT MOST 1048576: true; the input reads as it did. -/
def swapNamesUptoRow : OpenClaim := { program := "ytamhlmfcnnomgaa", sum := "b4f7f8d7d1a4e89cef238c17bbfed6d06ec8079761dff97259a9d2fa8257015f", func := "mullion/mullionlaw26.SwapNames", spec := "swapNames", unfollowed := true, recurses := true, apart := false, narrowed := true }
def SwapNamesUptoSaid : Prop := swapNamesUptoRow.holds Try.pinned (OpenSpec.upto swapNamesSpec)

end Rows
end Go.Proofs.Ytamhlmfcnnomgaa
