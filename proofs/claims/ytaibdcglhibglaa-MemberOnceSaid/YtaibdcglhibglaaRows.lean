/-
  No cell of these rows narrows 'for every input' (looked for: loops, veiled, ifaces, maps, wideKeys, modest, calm, conditions, laid).
  DERIVED. THE GIVEN ROWS OF THIS SEAT. 5 by the template 'for every input the law returns true; each argument reads behind the call as it read before'; 0 by the template 'total and deterministic' (their statements: YtaibdcglhibglaaTotals.lean).
  GIVEN WITH THE SEED: the statements are not yours to turn. If you find one false, say at which input.
  Laid BY PROGRAM, IN A SANDBOX (cutbox-rows.mjs): the forced cells as the released guide's own fill.sh prints them over the translation b783b799e88ba660… (all of the seat's roots in one cut). By AI agents, Wed Nov 11 2026. No macro, syntax, notation, axiom, sorry.
-/
import Derived.Test.YtaibdcglhibglaaChecked
import GoSem.Claim
import GoSem.ClaimJoined
import GoSem.ClaimMapViews
import Derived.JoinedTies
import Derived.KernelRfl
namespace Go.Proofs.Ytaibdcglhibglaa
/- THE CELL 'sum', in the pinned program and in every row, IS THE sha256 OF THE DUMP (.gsa) THAT YtaibdcglhibglaaProg.lean LOADS. Nothing in Lean hashes anything: it is a label: what it is worth is what the hold of that sum in a sandbox is worth. -/
noncomputable def Try.pinned : Pinned := { name := "ytaibdcglhibglaa", sum := "b783b799e88ba6607e26a184ba2e5410df6a23c3e762dfd4c17706042054aac5", checked := Try.checked }
namespace Rows
def none {H : Type} : Left H := { results := [], args := [] }

/-- 'mullionlaw24.MemberOnce': WHATEVER THE INPUT: true; the input reads as it did. -/
def memberOnceSpec : ChangeSpec := { name := "memberOnce", fn := fun _ => fun
  | [d] => { results := [.lit (.bool true)], args := [d] }
  | _ => none }
def memberOnceRow : OpenClaim := { program := "ytaibdcglhibglaa", sum := "b783b799e88ba6607e26a184ba2e5410df6a23c3e762dfd4c17706042054aac5", func := "mullion/mullionlaw24.MemberOnce", spec := "memberOnce", apart := false }
def MemberOnceSaid : Prop := memberOnceRow.holds Try.pinned (OpenSpec.ofChange memberOnceSpec)

/-- ITS FALSE NEIGHBOUR: 'it returns false'. Refute it at one input. -/
def memberOnceWrong : ChangeSpec := { name := "memberOnce", fn := fun _ => fun
  | [d] => { results := [.lit (.bool false)], args := [d] }
  | _ => none }
def MemberOnceWrongFalsely : Prop := memberOnceRow.holds Try.pinned (OpenSpec.ofChange memberOnceWrong)

/-- 'mullionlaw24.MemberRests': WHATEVER THE INPUT: true; the input reads as it did. -/
def memberRestsSpec : ChangeSpec := { name := "memberRests", fn := fun _ => fun
  | [d1, d2, d3] => { results := [.lit (.bool true)], args := [d1, d2, d3] }
  | _ => none }
def memberRestsRow : OpenClaim := { program := "ytaibdcglhibglaa", sum := "b783b799e88ba6607e26a184ba2e5410df6a23c3e762dfd4c17706042054aac5", func := "mullion/mullionlaw24.MemberRests", spec := "memberRests", apart := false }
def MemberRestsSaid : Prop := memberRestsRow.holds Try.pinned (OpenSpec.ofChange memberRestsSpec)

/-- ITS FALSE NEIGHBOUR: 'it returns false'. Refute it at one input. -/
def memberRestsWrong : ChangeSpec := { name := "memberRests", fn := fun _ => fun
  | [d1, d2, d3] => { results := [.lit (.bool false)], args := [d1, d2, d3] }
  | _ => none }
def MemberRestsWrongFalsely : Prop := memberRestsRow.holds Try.pinned (OpenSpec.ofChange memberRestsWrong)

/-- 'mullionlaw24.MemberJoins': WHATEVER THE INPUT: true; the input reads as it did. -/
def memberJoinsSpec : ChangeSpec := { name := "memberJoins", fn := fun _ => fun
  | [d1, d2] => { results := [.lit (.bool true)], args := [d1, d2] }
  | _ => none }
def memberJoinsRow : OpenClaim := { program := "ytaibdcglhibglaa", sum := "b783b799e88ba6607e26a184ba2e5410df6a23c3e762dfd4c17706042054aac5", func := "mullion/mullionlaw24.MemberJoins", spec := "memberJoins", unfollowed := true, recurses := true, apart := false }
def MemberJoinsSaid : Prop := memberJoinsRow.holds Try.pinned (OpenSpec.ofChange memberJoinsSpec)

/-- ITS FALSE NEIGHBOUR: 'it returns false'. Refute it at one input. -/
def memberJoinsWrong : ChangeSpec := { name := "memberJoins", fn := fun _ => fun
  | [d1, d2] => { results := [.lit (.bool false)], args := [d1, d2] }
  | _ => none }
def MemberJoinsWrongFalsely : Prop := memberJoinsRow.holds Try.pinned (OpenSpec.ofChange memberJoinsWrong)

/-- 'mullionlaw24.MemberPlays': WHATEVER THE INPUT: true; the input reads as it did. -/
def memberPlaysSpec : ChangeSpec := { name := "memberPlays", fn := fun _ => fun
  | [d1, d2, d3, d4] => { results := [.lit (.bool true)], args := [d1, d2, d3, d4] }
  | _ => none }
def memberPlaysRow : OpenClaim := { program := "ytaibdcglhibglaa", sum := "b783b799e88ba6607e26a184ba2e5410df6a23c3e762dfd4c17706042054aac5", func := "mullion/mullionlaw24.MemberPlays", spec := "memberPlays", inPlace := ["maps.clone"], unfollowed := true, recurses := true, apart := false }
def MemberPlaysSaid : Prop := memberPlaysRow.holds Try.pinned (OpenSpec.ofChange memberPlaysSpec)

/-- ITS FALSE NEIGHBOUR: 'it returns false'. Refute it at one input. -/
def memberPlaysWrong : ChangeSpec := { name := "memberPlays", fn := fun _ => fun
  | [d1, d2, d3, d4] => { results := [.lit (.bool false)], args := [d1, d2, d3, d4] }
  | _ => none }
def MemberPlaysWrongFalsely : Prop := memberPlaysRow.holds Try.pinned (OpenSpec.ofChange memberPlaysWrong)

/-- 'mullionlaw24.MemberNames': WHATEVER THE INPUT: true; the input reads as it did. -/
def memberNamesSpec : ChangeSpec := { name := "memberNames", fn := fun _ => fun
  | [] => { results := [.lit (.bool true)], args := [] }
  | _ => none }
def memberNamesRow : OpenClaim := { program := "ytaibdcglhibglaa", sum := "b783b799e88ba6607e26a184ba2e5410df6a23c3e762dfd4c17706042054aac5", func := "mullion/mullionlaw24.MemberNames", spec := "memberNames", inPlace := ["maps.clone"], unfollowed := true, recurses := true, apart := false }
def MemberNamesSaid : Prop := memberNamesRow.holds Try.pinned (OpenSpec.ofChange memberNamesSpec)

/-- ITS FALSE NEIGHBOUR: 'it returns false'. Refute it at one input. -/
def memberNamesWrong : ChangeSpec := { name := "memberNames", fn := fun _ => fun
  | [] => { results := [.lit (.bool false)], args := [] }
  | _ => none }
def MemberNamesWrongFalsely : Prop := memberNamesRow.holds Try.pinned (OpenSpec.ofChange memberNamesWrong)

/- THE SECOND FORM. 'bulk': how many values and letters a reading holds, each counted each time it is reached (what is shared counts as often as it is met; a slice's spare places count too). A statement '..UptoSaid' is the law's where the arguments, and the package variables that the reading takes, are together of bulk at most 1048576: NARROWER than '..Said'. Prove '..Said' where nothing that the law and all that it calls make is longer than what came in: it says more and counts as full. Else prove '..UptoSaid'. A law counts once. -/
mutual
def uptoBulk {H : Type} : DataW H → Nat
  | .lit (.string bytes) => bytes.length + 1
  | .lit _ => 1
  | .nil => 1
  | .ptr d => uptoBulk d + 1
  | .slice elems spare => uptoBulkAll elems + uptoBulkAll spare + 1
  | .agg parts => uptoBulkAll parts + 1
  | .iface _ d => uptoBulk d + 1
  | .map entries => uptoBulkEntries entries + 1
  | .held _ => 1
def uptoBulkAll {H : Type} : List (DataW H) → Nat
  | [] => 0
  | d :: r => uptoBulk d + uptoBulkAll r
def uptoBulkEntries {H : Type} : List (Lit × DataW H) → Nat
  | [] => 0
  | x :: r => uptoBulkEntry x + uptoBulkEntries r
def uptoBulkEntry {H : Type} : Lit × DataW H → Nat
  | (.string bytes, d) => bytes.length + uptoBulk d + 1
  | (_, d) => uptoBulk d + 1
 end
def uptoSmall : (H : Type) → List (DataW H) → Bool := fun _ ds => decide (uptoBulkAll ds ≤ 1048576)
def OpenSpec.upto (s : _root_.Go.ChangeSpec) : _root_.Go.OpenSpec := { _root_.Go.OpenSpec.ofChange s with cond := some uptoSmall }

/-- 'mullionlaw24.MemberOnce', WHERE WHAT IT READS IS OF BULK AT MOST 1048576: true; the input reads as it did. -/
def memberOnceUptoRow : OpenClaim := { program := "ytaibdcglhibglaa", sum := "b783b799e88ba6607e26a184ba2e5410df6a23c3e762dfd4c17706042054aac5", func := "mullion/mullionlaw24.MemberOnce", spec := "memberOnce", apart := false, narrowed := true }
def MemberOnceUptoSaid : Prop := memberOnceUptoRow.holds Try.pinned (OpenSpec.upto memberOnceSpec)

/-- 'mullionlaw24.MemberRests', WHERE WHAT IT READS IS OF BULK AT MOST 1048576: true; the input reads as it did. -/
def memberRestsUptoRow : OpenClaim := { program := "ytaibdcglhibglaa", sum := "b783b799e88ba6607e26a184ba2e5410df6a23c3e762dfd4c17706042054aac5", func := "mullion/mullionlaw24.MemberRests", spec := "memberRests", apart := false, narrowed := true }
def MemberRestsUptoSaid : Prop := memberRestsUptoRow.holds Try.pinned (OpenSpec.upto memberRestsSpec)

/-- 'mullionlaw24.MemberJoins', WHERE WHAT IT READS IS OF BULK AT MOST 1048576: true; the input reads as it did. -/
def memberJoinsUptoRow : OpenClaim := { program := "ytaibdcglhibglaa", sum := "b783b799e88ba6607e26a184ba2e5410df6a23c3e762dfd4c17706042054aac5", func := "mullion/mullionlaw24.MemberJoins", spec := "memberJoins", unfollowed := true, recurses := true, apart := false, narrowed := true }
def MemberJoinsUptoSaid : Prop := memberJoinsUptoRow.holds Try.pinned (OpenSpec.upto memberJoinsSpec)

/-- 'mullionlaw24.MemberPlays', WHERE WHAT IT READS IS OF BULK AT MOST 1048576: true; the input reads as it did. -/
def memberPlaysUptoRow : OpenClaim := { program := "ytaibdcglhibglaa", sum := "b783b799e88ba6607e26a184ba2e5410df6a23c3e762dfd4c17706042054aac5", func := "mullion/mullionlaw24.MemberPlays", spec := "memberPlays", inPlace := ["maps.clone"], unfollowed := true, recurses := true, apart := false, narrowed := true }
def MemberPlaysUptoSaid : Prop := memberPlaysUptoRow.holds Try.pinned (OpenSpec.upto memberPlaysSpec)

/-- 'mullionlaw24.MemberNames', WHERE WHAT IT READS IS OF BULK AT MOST 1048576: true; the input reads as it did. -/
def memberNamesUptoRow : OpenClaim := { program := "ytaibdcglhibglaa", sum := "b783b799e88ba6607e26a184ba2e5410df6a23c3e762dfd4c17706042054aac5", func := "mullion/mullionlaw24.MemberNames", spec := "memberNames", inPlace := ["maps.clone"], unfollowed := true, recurses := true, apart := false, narrowed := true }
def MemberNamesUptoSaid : Prop := memberNamesUptoRow.holds Try.pinned (OpenSpec.upto memberNamesSpec)

end Rows
end Go.Proofs.Ytaibdcglhibglaa
