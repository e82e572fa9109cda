/-
  No cell of these rows narrows 'for every input' (looked for: loops, veiled, ifaces, maps, wideKeys, modest, calm, conditions, laid).
  DERIVED. THE GIVEN ROWS OF THIS SEAT. 4 by the template 'for every input the law returns true; each argument reads behind the call as it read before'; 0 by the template 'total and deterministic' (their statements: YtpjapjddfldniaaTotals.lean).
  GIVEN WITH THE SEED: the statements are not yours to turn. If you find one false, say at which input.
  Laid BY PROGRAM, IN A SANDBOX (cutbox-rows.mjs): the forced cells as the released guide's own fill.sh prints them over the translation d9f7749f53786c84… (all of the seat's roots in one cut). By AI agents, Wed Nov 11 2026. No macro, syntax, notation, axiom, sorry.
-/
import Derived.Test.YtpjapjddfldniaaChecked
import GoSem.Claim
import GoSem.ClaimJoined
import GoSem.ClaimMapViews
import Derived.JoinedTies
import Derived.KernelRfl
namespace Go.Proofs.Ytpjapjddfldniaa
/- THE CELL 'sum', in the pinned program and in every row, IS THE sha256 OF THE DUMP (.gsa) THAT YtpjapjddfldniaaProg.lean LOADS. Nothing in Lean hashes anything: it is a label: what it is worth is what the hold of that sum in a sandbox is worth. -/
noncomputable def Try.pinned : Pinned := { name := "ytpjapjddfldniaa", sum := "d9f7749f53786c842d63efd1956db155c74a07819575faf6f0f0a422f3aa049a", checked := Try.checked }
namespace Rows
def none {H : Type} : Left H := { results := [], args := [] }

/-- 'mullionlaw01.FixedSums': WHATEVER THE INPUT: true; the input reads as it did. -/
def fixedSumsSpec : ChangeSpec := { name := "fixedSums", fn := fun _ => fun
  | [d1, d2, d3] => { results := [.lit (.bool true)], args := [d1, d2, d3] }
  | _ => none }
def fixedSumsRow : OpenClaim := { program := "ytpjapjddfldniaa", sum := "d9f7749f53786c842d63efd1956db155c74a07819575faf6f0f0a422f3aa049a", func := "mullion/mullionlaw01.FixedSums", spec := "fixedSums", apart := false }
def FixedSumsSaid : Prop := fixedSumsRow.holds Try.pinned (OpenSpec.ofChange fixedSumsSpec)

/-- ITS FALSE NEIGHBOUR: 'it returns false'. Refute it at one input. -/
def fixedSumsWrong : ChangeSpec := { name := "fixedSums", fn := fun _ => fun
  | [d1, d2, d3] => { results := [.lit (.bool false)], args := [d1, d2, d3] }
  | _ => none }
def FixedSumsWrongFalsely : Prop := fixedSumsRow.holds Try.pinned (OpenSpec.ofChange fixedSumsWrong)

/-- 'mullionlaw01.FixedProducts': WHATEVER THE INPUT: true; the input reads as it did. -/
def fixedProductsSpec : ChangeSpec := { name := "fixedProducts", fn := fun _ => fun
  | [d1, d2] => { results := [.lit (.bool true)], args := [d1, d2] }
  | _ => none }
def fixedProductsRow : OpenClaim := { program := "ytpjapjddfldniaa", sum := "d9f7749f53786c842d63efd1956db155c74a07819575faf6f0f0a422f3aa049a", func := "mullion/mullionlaw01.FixedProducts", spec := "fixedProducts", named := ["math/bits.divideError", "math/bits.overflowError"], apart := false }
def FixedProductsSaid : Prop := fixedProductsRow.holds Try.pinned (OpenSpec.ofChange fixedProductsSpec)

/-- ITS FALSE NEIGHBOUR: 'it returns false'. Refute it at one input. -/
def fixedProductsWrong : ChangeSpec := { name := "fixedProducts", fn := fun _ => fun
  | [d1, d2] => { results := [.lit (.bool false)], args := [d1, d2] }
  | _ => none }
def FixedProductsWrongFalsely : Prop := fixedProductsRow.holds Try.pinned (OpenSpec.ofChange fixedProductsWrong)

/-- 'mullionlaw01.FixedFloors': WHATEVER THE INPUT: true; the input reads as it did. -/
def fixedFloorsSpec : ChangeSpec := { name := "fixedFloors", fn := fun _ => fun
  | [d1, d2] => { results := [.lit (.bool true)], args := [d1, d2] }
  | _ => none }
def fixedFloorsRow : OpenClaim := { program := "ytpjapjddfldniaa", sum := "d9f7749f53786c842d63efd1956db155c74a07819575faf6f0f0a422f3aa049a", func := "mullion/mullionlaw01.FixedFloors", spec := "fixedFloors", named := ["math/bits.divideError", "math/bits.overflowError"], apart := false }
def FixedFloorsSaid : Prop := fixedFloorsRow.holds Try.pinned (OpenSpec.ofChange fixedFloorsSpec)

/-- ITS FALSE NEIGHBOUR: 'it returns false'. Refute it at one input. -/
def fixedFloorsWrong : ChangeSpec := { name := "fixedFloors", fn := fun _ => fun
  | [d1, d2] => { results := [.lit (.bool false)], args := [d1, d2] }
  | _ => none }
def FixedFloorsWrongFalsely : Prop := fixedFloorsRow.holds Try.pinned (OpenSpec.ofChange fixedFloorsWrong)

/-- 'mullionlaw01.FixedSwaps': WHATEVER THE INPUT: true; the input reads as it did. -/
def fixedSwapsSpec : ChangeSpec := { name := "fixedSwaps", fn := fun _ => fun
  | [d1, d2] => { results := [.lit (.bool true)], args := [d1, d2] }
  | _ => none }
def fixedSwapsRow : OpenClaim := { program := "ytpjapjddfldniaa", sum := "d9f7749f53786c842d63efd1956db155c74a07819575faf6f0f0a422f3aa049a", func := "mullion/mullionlaw01.FixedSwaps", spec := "fixedSwaps", named := ["math/bits.divideError", "math/bits.overflowError"], apart := false }
def FixedSwapsSaid : Prop := fixedSwapsRow.holds Try.pinned (OpenSpec.ofChange fixedSwapsSpec)

/-- ITS FALSE NEIGHBOUR: 'it returns false'. Refute it at one input. -/
def fixedSwapsWrong : ChangeSpec := { name := "fixedSwaps", fn := fun _ => fun
  | [d1, d2] => { results := [.lit (.bool false)], args := [d1, d2] }
  | _ => none }
def FixedSwapsWrongFalsely : Prop := fixedSwapsRow.holds Try.pinned (OpenSpec.ofChange fixedSwapsWrong)

/- THE SECOND FORM. 'bulk': how many values and letters a reading holds, each counted each time it is reached (what is shared counts as often as it is met; a slice's spare places count too). A statement '..UptoSaid' is the law's where the arguments, and the package variables that the reading takes, are together of bulk at most 1048576: NARROWER than '..Said'. Prove '..Said' where nothing that the law and all that it calls make is longer than what came in: it says more and counts as full. Else prove '..UptoSaid'. A law counts once. -/
mutual
def uptoBulk {H : Type} : DataW H → Nat
  | .lit (.string bytes) => bytes.length + 1
  | .lit _ => 1
  | .nil => 1
  | .ptr d => uptoBulk d + 1
  | .slice elems spare => uptoBulkAll elems + uptoBulkAll spare + 1
  | .agg parts => uptoBulkAll parts + 1
  | .iface _ d => uptoBulk d + 1
  | .map entries => uptoBulkEntries entries + 1
  | .held _ => 1
def uptoBulkAll {H : Type} : List (DataW H) → Nat
  | [] => 0
  | d :: r => uptoBulk d + uptoBulkAll r
def uptoBulkEntries {H : Type} : List (Lit × DataW H) → Nat
  | [] => 0
  | x :: r => uptoBulkEntry x + uptoBulkEntries r
def uptoBulkEntry {H : Type} : Lit × DataW H → Nat
  | (.string bytes, d) => bytes.length + uptoBulk d + 1
  | (_, d) => uptoBulk d + 1
 end
def uptoSmall : (H : Type) → List (DataW H) → Bool := fun _ ds => decide (uptoBulkAll ds ≤ 1048576)
def OpenSpec.upto (s : _root_.Go.ChangeSpec) : _root_.Go.OpenSpec := { _root_.Go.OpenSpec.ofChange s with cond := some uptoSmall }

/-- 'mullionlaw01.FixedSums', WHERE WHAT IT READS IS OF BULK AT MOST 1048576: true; the input reads as it did. -/
def fixedSumsUptoRow : OpenClaim := { program := "ytpjapjddfldniaa", sum := "d9f7749f53786c842d63efd1956db155c74a07819575faf6f0f0a422f3aa049a", func := "mullion/mullionlaw01.FixedSums", spec := "fixedSums", apart := false, narrowed := true }
def FixedSumsUptoSaid : Prop := fixedSumsUptoRow.holds Try.pinned (OpenSpec.upto fixedSumsSpec)

/-- 'mullionlaw01.FixedProducts', WHERE WHAT IT READS IS OF BULK AT MOST 1048576: true; the input reads as it did. -/
def fixedProductsUptoRow : OpenClaim := { program := "ytpjapjddfldniaa", sum := "d9f7749f53786c842d63efd1956db155c74a07819575faf6f0f0a422f3aa049a", func := "mullion/mullionlaw01.FixedProducts", spec := "fixedProducts", named := ["math/bits.divideError", "math/bits.overflowError"], apart := false, narrowed := true }
def FixedProductsUptoSaid : Prop := fixedProductsUptoRow.holds Try.pinned (OpenSpec.upto fixedProductsSpec)

/-- 'mullionlaw01.FixedFloors', WHERE WHAT IT READS IS OF BULK AT MOST 1048576: true; the input reads as it did. -/
def fixedFloorsUptoRow : OpenClaim := { program := "ytpjapjddfldniaa", sum := "d9f7749f53786c842d63efd1956db155c74a07819575faf6f0f0a422f3aa049a", func := "mullion/mullionlaw01.FixedFloors", spec := "fixedFloors", named := ["math/bits.divideError", "math/bits.overflowError"], apart := false, narrowed := true }
def FixedFloorsUptoSaid : Prop := fixedFloorsUptoRow.holds Try.pinned (OpenSpec.upto fixedFloorsSpec)

/-- 'mullionlaw01.FixedSwaps', WHERE WHAT IT READS IS OF BULK AT MOST 1048576: true; the input reads as it did. -/
def fixedSwapsUptoRow : OpenClaim := { program := "ytpjapjddfldniaa", sum := "d9f7749f53786c842d63efd1956db155c74a07819575faf6f0f0a422f3aa049a", func := "mullion/mullionlaw01.FixedSwaps", spec := "fixedSwaps", named := ["math/bits.divideError", "math/bits.overflowError"], apart := false, narrowed := true }
def FixedSwapsUptoSaid : Prop := fixedSwapsUptoRow.holds Try.pinned (OpenSpec.upto fixedSwapsSpec)

end Rows
end Go.Proofs.Ytpjapjddfldniaa
