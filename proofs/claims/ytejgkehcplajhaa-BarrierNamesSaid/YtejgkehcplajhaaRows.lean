/-
  No cell of these rows narrows 'for every input' (looked for: loops, veiled, ifaces, maps, wideKeys, modest, calm, conditions, laid).
  DERIVED. THE GIVEN ROWS OF THIS SEAT. 5 by the template 'for every input the law returns true; each argument reads behind the call as it read before'; 0 by the template 'total and deterministic' (their statements: YtejgkehcplajhaaTotals.lean).
  GIVEN WITH THE SEED: the statements are not yours to turn. If you find one false, say at which input.
  Laid BY PROGRAM, IN A SANDBOX (cutbox-rows.mjs): the forced cells as the released guide's own fill.sh prints them over the translation accc12dcd18c5984… (all of the seat's roots in one cut). By AI agents, Wed Nov 11 2026. No macro, syntax, notation, axiom, sorry.
-/
import Derived.Test.YtejgkehcplajhaaChecked
import GoSem.Claim
import GoSem.ClaimJoined
import GoSem.ClaimMapViews
import Derived.JoinedTies
import Derived.KernelRfl
namespace Go.Proofs.Ytejgkehcplajhaa
/- THE CELL 'sum', in the pinned program and in every row, IS THE sha256 OF THE DUMP (.gsa) THAT YtejgkehcplajhaaProg.lean LOADS. Nothing in Lean hashes anything: it is a label: what it is worth is what the hold of that sum in a sandbox is worth. -/
noncomputable def Try.pinned : Pinned := { name := "ytejgkehcplajhaa", sum := "accc12dcd18c5984b20dec66c5afbecc683e97026fe6dc467372e02f7bfb3400", checked := Try.checked }
namespace Rows
def none {H : Type} : Left H := { results := [], args := [] }

/-- 'mullionlaw25.BarrierGates': WHATEVER THE INPUT: true; the input reads as it did. -/
def barrierGatesSpec : ChangeSpec := { name := "barrierGates", fn := fun _ => fun
  | [d] => { results := [.lit (.bool true)], args := [d] }
  | _ => none }
def barrierGatesRow : OpenClaim := { program := "ytejgkehcplajhaa", sum := "accc12dcd18c5984b20dec66c5afbecc683e97026fe6dc467372e02f7bfb3400", func := "mullion/mullionlaw25.BarrierGates", spec := "barrierGates", apart := false }
def BarrierGatesSaid : Prop := barrierGatesRow.holds Try.pinned (OpenSpec.ofChange barrierGatesSpec)

/-- ITS FALSE NEIGHBOUR: 'it returns false'. Refute it at one input. -/
def barrierGatesWrong : ChangeSpec := { name := "barrierGates", fn := fun _ => fun
  | [d] => { results := [.lit (.bool false)], args := [d] }
  | _ => none }
def BarrierGatesWrongFalsely : Prop := barrierGatesRow.holds Try.pinned (OpenSpec.ofChange barrierGatesWrong)

/-- 'mullionlaw25.BarrierAll': WHATEVER THE INPUT: true; the input reads as it did. -/
def barrierAllSpec : ChangeSpec := { name := "barrierAll", fn := fun _ => fun
  | [d1, d2, d3] => { results := [.lit (.bool true)], args := [d1, d2, d3] }
  | _ => none }
def barrierAllRow : OpenClaim := { program := "ytejgkehcplajhaa", sum := "accc12dcd18c5984b20dec66c5afbecc683e97026fe6dc467372e02f7bfb3400", func := "mullion/mullionlaw25.BarrierAll", spec := "barrierAll", unfollowed := true, recurses := true, apart := false }
def BarrierAllSaid : Prop := barrierAllRow.holds Try.pinned (OpenSpec.ofChange barrierAllSpec)

/-- ITS FALSE NEIGHBOUR: 'it returns false'. Refute it at one input. -/
def barrierAllWrong : ChangeSpec := { name := "barrierAll", fn := fun _ => fun
  | [d1, d2, d3] => { results := [.lit (.bool false)], args := [d1, d2, d3] }
  | _ => none }
def BarrierAllWrongFalsely : Prop := barrierAllRow.holds Try.pinned (OpenSpec.ofChange barrierAllWrong)

/-- 'mullionlaw25.BarrierPlays': WHATEVER THE INPUT: true; the input reads as it did. -/
def barrierPlaysSpec : ChangeSpec := { name := "barrierPlays", fn := fun _ => fun
  | [d1, d2] => { results := [.lit (.bool true)], args := [d1, d2] }
  | _ => none }
def barrierPlaysRow : OpenClaim := { program := "ytejgkehcplajhaa", sum := "accc12dcd18c5984b20dec66c5afbecc683e97026fe6dc467372e02f7bfb3400", func := "mullion/mullionlaw25.BarrierPlays", spec := "barrierPlays", inPlace := ["maps.clone"], unfollowed := true, recurses := true, apart := false }
def BarrierPlaysSaid : Prop := barrierPlaysRow.holds Try.pinned (OpenSpec.ofChange barrierPlaysSpec)

/-- ITS FALSE NEIGHBOUR: 'it returns false'. Refute it at one input. -/
def barrierPlaysWrong : ChangeSpec := { name := "barrierPlays", fn := fun _ => fun
  | [d1, d2] => { results := [.lit (.bool false)], args := [d1, d2] }
  | _ => none }
def BarrierPlaysWrongFalsely : Prop := barrierPlaysRow.holds Try.pinned (OpenSpec.ofChange barrierPlaysWrong)

/-- 'mullionlaw25.BarrierOrders': WHATEVER THE INPUT: true; the input reads as it did. -/
def barrierOrdersSpec : ChangeSpec := { name := "barrierOrders", fn := fun _ => fun
  | [d1, d2, d3] => { results := [.lit (.bool true)], args := [d1, d2, d3] }
  | _ => none }
def barrierOrdersRow : OpenClaim := { program := "ytejgkehcplajhaa", sum := "accc12dcd18c5984b20dec66c5afbecc683e97026fe6dc467372e02f7bfb3400", func := "mullion/mullionlaw25.BarrierOrders", spec := "barrierOrders", inPlace := ["maps.clone"], unfollowed := true, recurses := true, apart := false }
def BarrierOrdersSaid : Prop := barrierOrdersRow.holds Try.pinned (OpenSpec.ofChange barrierOrdersSpec)

/-- ITS FALSE NEIGHBOUR: 'it returns false'. Refute it at one input. -/
def barrierOrdersWrong : ChangeSpec := { name := "barrierOrders", fn := fun _ => fun
  | [d1, d2, d3] => { results := [.lit (.bool false)], args := [d1, d2, d3] }
  | _ => none }
def BarrierOrdersWrongFalsely : Prop := barrierOrdersRow.holds Try.pinned (OpenSpec.ofChange barrierOrdersWrong)

/-- 'mullionlaw25.BarrierNames': WHATEVER THE INPUT: true; the input reads as it did. -/
def barrierNamesSpec : ChangeSpec := { name := "barrierNames", fn := fun _ => fun
  | [] => { results := [.lit (.bool true)], args := [] }
  | _ => none }
def barrierNamesRow : OpenClaim := { program := "ytejgkehcplajhaa", sum := "accc12dcd18c5984b20dec66c5afbecc683e97026fe6dc467372e02f7bfb3400", func := "mullion/mullionlaw25.BarrierNames", spec := "barrierNames", inPlace := ["maps.clone"], unfollowed := true, recurses := true, apart := false }
def BarrierNamesSaid : Prop := barrierNamesRow.holds Try.pinned (OpenSpec.ofChange barrierNamesSpec)

/-- ITS FALSE NEIGHBOUR: 'it returns false'. Refute it at one input. -/
def barrierNamesWrong : ChangeSpec := { name := "barrierNames", fn := fun _ => fun
  | [] => { results := [.lit (.bool false)], args := [] }
  | _ => none }
def BarrierNamesWrongFalsely : Prop := barrierNamesRow.holds Try.pinned (OpenSpec.ofChange barrierNamesWrong)

/- THE SECOND FORM. 'bulk': how many values and letters a reading holds, each counted each time it is reached (what is shared counts as often as it is met; a slice's spare places count too). A statement '..UptoSaid' is the law's where the arguments, and the package variables that the reading takes, are together of bulk at most 1048576: NARROWER than '..Said'. Prove '..Said' where nothing that the law and all that it calls make is longer than what came in: it says more and counts as full. Else prove '..UptoSaid'. A law counts once. -/
mutual
def uptoBulk {H : Type} : DataW H → Nat
  | .lit (.string bytes) => bytes.length + 1
  | .lit _ => 1
  | .nil => 1
  | .ptr d => uptoBulk d + 1
  | .slice elems spare => uptoBulkAll elems + uptoBulkAll spare + 1
  | .agg parts => uptoBulkAll parts + 1
  | .iface _ d => uptoBulk d + 1
  | .map entries => uptoBulkEntries entries + 1
  | .held _ => 1
def uptoBulkAll {H : Type} : List (DataW H) → Nat
  | [] => 0
  | d :: r => uptoBulk d + uptoBulkAll r
def uptoBulkEntries {H : Type} : List (Lit × DataW H) → Nat
  | [] => 0
  | x :: r => uptoBulkEntry x + uptoBulkEntries r
def uptoBulkEntry {H : Type} : Lit × DataW H → Nat
  | (.string bytes, d) => bytes.length + uptoBulk d + 1
  | (_, d) => uptoBulk d + 1
 end
def uptoSmall : (H : Type) → List (DataW H) → Bool := fun _ ds => decide (uptoBulkAll ds ≤ 1048576)
def OpenSpec.upto (s : _root_.Go.ChangeSpec) : _root_.Go.OpenSpec := { _root_.Go.OpenSpec.ofChange s with cond := some uptoSmall }

/-- 'mullionlaw25.BarrierGates', WHERE WHAT IT READS IS OF BULK AT MOST 1048576: true; the input reads as it did. -/
def barrierGatesUptoRow : OpenClaim := { program := "ytejgkehcplajhaa", sum := "accc12dcd18c5984b20dec66c5afbecc683e97026fe6dc467372e02f7bfb3400", func := "mullion/mullionlaw25.BarrierGates", spec := "barrierGates", apart := false, narrowed := true }
def BarrierGatesUptoSaid : Prop := barrierGatesUptoRow.holds Try.pinned (OpenSpec.upto barrierGatesSpec)

/-- 'mullionlaw25.BarrierAll', WHERE WHAT IT READS IS OF BULK AT MOST 1048576: true; the input reads as it did. -/
def barrierAllUptoRow : OpenClaim := { program := "ytejgkehcplajhaa", sum := "accc12dcd18c5984b20dec66c5afbecc683e97026fe6dc467372e02f7bfb3400", func := "mullion/mullionlaw25.BarrierAll", spec := "barrierAll", unfollowed := true, recurses := true, apart := false, narrowed := true }
def BarrierAllUptoSaid : Prop := barrierAllUptoRow.holds Try.pinned (OpenSpec.upto barrierAllSpec)

/-- 'mullionlaw25.BarrierPlays', WHERE WHAT IT READS IS OF BULK AT MOST 1048576: true; the input reads as it did. -/
def barrierPlaysUptoRow : OpenClaim := { program := "ytejgkehcplajhaa", sum := "accc12dcd18c5984b20dec66c5afbecc683e97026fe6dc467372e02f7bfb3400", func := "mullion/mullionlaw25.BarrierPlays", spec := "barrierPlays", inPlace := ["maps.clone"], unfollowed := true, recurses := true, apart := false, narrowed := true }
def BarrierPlaysUptoSaid : Prop := barrierPlaysUptoRow.holds Try.pinned (OpenSpec.upto barrierPlaysSpec)

/-- 'mullionlaw25.BarrierOrders', WHERE WHAT IT READS IS OF BULK AT MOST 1048576: true; the input reads as it did. -/
def barrierOrdersUptoRow : OpenClaim := { program := "ytejgkehcplajhaa", sum := "accc12dcd18c5984b20dec66c5afbecc683e97026fe6dc467372e02f7bfb3400", func := "mullion/mullionlaw25.BarrierOrders", spec := "barrierOrders", inPlace := ["maps.clone"], unfollowed := true, recurses := true, apart := false, narrowed := true }
def BarrierOrdersUptoSaid : Prop := barrierOrdersUptoRow.holds Try.pinned (OpenSpec.upto barrierOrdersSpec)

/-- 'mullionlaw25.BarrierNames', WHERE WHAT IT READS IS OF BULK AT MOST 1048576: true; the input reads as it did. -/
def barrierNamesUptoRow : OpenClaim := { program := "ytejgkehcplajhaa", sum := "accc12dcd18c5984b20dec66c5afbecc683e97026fe6dc467372e02f7bfb3400", func := "mullion/mullionlaw25.BarrierNames", spec := "barrierNames", inPlace := ["maps.clone"], unfollowed := true, recurses := true, apart := false, narrowed := true }
def BarrierNamesUptoSaid : Prop := barrierNamesUptoRow.holds Try.pinned (OpenSpec.upto barrierNamesSpec)

end Rows
end Go.Proofs.Ytejgkehcplajhaa
