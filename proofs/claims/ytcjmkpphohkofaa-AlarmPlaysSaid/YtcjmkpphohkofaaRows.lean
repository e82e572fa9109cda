/-
  No cell of these rows narrows 'for every input' (looked for: loops, veiled, ifaces, maps, wideKeys, modest, calm, conditions, laid).
  DERIVED. THE GIVEN ROWS OF THIS SEAT. 5 by the template 'for every input the law returns true; each argument reads behind the call as it read before'; 0 by the template 'total and deterministic' (their statements: YtcjmkpphohkofaaTotals.lean).
  GIVEN WITH THE SEED: the statements are not yours to turn. If you find one false, say at which input.
  Laid BY PROGRAM, IN A SANDBOX (cutbox-rows.mjs): the forced cells as the released guide's own fill.sh prints them over the translation 97c40d01da169f8c… (all of the seat's roots in one cut). By AI agents, Wed Nov 11 2026. No macro, syntax, notation, axiom, sorry.
-/
import Derived.Test.YtcjmkpphohkofaaChecked
import GoSem.Claim
import GoSem.ClaimJoined
import GoSem.ClaimMapViews
import Derived.JoinedTies
import Derived.KernelRfl
namespace Go.Proofs.Ytcjmkpphohkofaa
/- THE CELL 'sum', in the pinned program and in every row, IS THE sha256 OF THE DUMP (.gsa) THAT YtcjmkpphohkofaaProg.lean LOADS. Nothing in Lean hashes anything: it is a label: what it is worth is what the hold of that sum in a sandbox is worth. -/
noncomputable def Try.pinned : Pinned := { name := "ytcjmkpphohkofaa", sum := "97c40d01da169f8c542422cd3620c1d4a7aa20d7da312d6609f01d56c258464f", checked := Try.checked }
namespace Rows
def none {H : Type} : Left H := { results := [], args := [] }

/-- 'mullionlaw20.AlarmTimes': WHATEVER THE INPUT: true; the input reads as it did. -/
def alarmTimesSpec : ChangeSpec := { name := "alarmTimes", fn := fun _ => fun
  | [d1, d2, d3, d4] => { results := [.lit (.bool true)], args := [d1, d2, d3, d4] }
  | _ => none }
def alarmTimesRow : OpenClaim := { program := "ytcjmkpphohkofaa", sum := "97c40d01da169f8c542422cd3620c1d4a7aa20d7da312d6609f01d56c258464f", func := "mullion/mullionlaw20.AlarmTimes", spec := "alarmTimes", inPlace := ["slices.overlaps[mullion/alarm.alarm]"], unfollowed := true, recurses := true, apart := false }
def AlarmTimesSaid : Prop := alarmTimesRow.holds Try.pinned (OpenSpec.ofChange alarmTimesSpec)

/-- ITS FALSE NEIGHBOUR: 'it returns false'. Refute it at one input. -/
def alarmTimesWrong : ChangeSpec := { name := "alarmTimes", fn := fun _ => fun
  | [d1, d2, d3, d4] => { results := [.lit (.bool false)], args := [d1, d2, d3, d4] }
  | _ => none }
def AlarmTimesWrongFalsely : Prop := alarmTimesRow.holds Try.pinned (OpenSpec.ofChange alarmTimesWrong)

/-- 'mullionlaw20.AlarmNext': WHATEVER THE INPUT: true; the input reads as it did. -/
def alarmNextSpec : ChangeSpec := { name := "alarmNext", fn := fun _ => fun
  | [d1, d2, d3] => { results := [.lit (.bool true)], args := [d1, d2, d3] }
  | _ => none }
def alarmNextRow : OpenClaim := { program := "ytcjmkpphohkofaa", sum := "97c40d01da169f8c542422cd3620c1d4a7aa20d7da312d6609f01d56c258464f", func := "mullion/mullionlaw20.AlarmNext", spec := "alarmNext", inPlace := ["slices.overlaps[mullion/alarm.alarm]"], unfollowed := true, recurses := true, apart := false }
def AlarmNextSaid : Prop := alarmNextRow.holds Try.pinned (OpenSpec.ofChange alarmNextSpec)

/-- ITS FALSE NEIGHBOUR: 'it returns false'. Refute it at one input. -/
def alarmNextWrong : ChangeSpec := { name := "alarmNext", fn := fun _ => fun
  | [d1, d2, d3] => { results := [.lit (.bool false)], args := [d1, d2, d3] }
  | _ => none }
def AlarmNextWrongFalsely : Prop := alarmNextRow.holds Try.pinned (OpenSpec.ofChange alarmNextWrong)

/-- 'mullionlaw20.AlarmDrops': WHATEVER THE INPUT: true; the input reads as it did. -/
def alarmDropsSpec : ChangeSpec := { name := "alarmDrops", fn := fun _ => fun
  | [d1, d2, d3] => { results := [.lit (.bool true)], args := [d1, d2, d3] }
  | _ => none }
def alarmDropsRow : OpenClaim := { program := "ytcjmkpphohkofaa", sum := "97c40d01da169f8c542422cd3620c1d4a7aa20d7da312d6609f01d56c258464f", func := "mullion/mullionlaw20.AlarmDrops", spec := "alarmDrops", inPlace := ["slices.overlaps[mullion/alarm.alarm]"], unfollowed := true, recurses := true, apart := false }
def AlarmDropsSaid : Prop := alarmDropsRow.holds Try.pinned (OpenSpec.ofChange alarmDropsSpec)

/-- ITS FALSE NEIGHBOUR: 'it returns false'. Refute it at one input. -/
def alarmDropsWrong : ChangeSpec := { name := "alarmDrops", fn := fun _ => fun
  | [d1, d2, d3] => { results := [.lit (.bool false)], args := [d1, d2, d3] }
  | _ => none }
def AlarmDropsWrongFalsely : Prop := alarmDropsRow.holds Try.pinned (OpenSpec.ofChange alarmDropsWrong)

/-- 'mullionlaw20.AlarmPlays': WHATEVER THE INPUT: true; the input reads as it did. -/
def alarmPlaysSpec : ChangeSpec := { name := "alarmPlays", fn := fun _ => fun
  | [d1, d2, d3] => { results := [.lit (.bool true)], args := [d1, d2, d3] }
  | _ => none }
def alarmPlaysRow : OpenClaim := { program := "ytcjmkpphohkofaa", sum := "97c40d01da169f8c542422cd3620c1d4a7aa20d7da312d6609f01d56c258464f", func := "mullion/mullionlaw20.AlarmPlays", spec := "alarmPlays", inPlace := ["slices.overlaps[mullion/alarm.alarm]"], unfollowed := true, recurses := true, apart := false }
def AlarmPlaysSaid : Prop := alarmPlaysRow.holds Try.pinned (OpenSpec.ofChange alarmPlaysSpec)

/-- ITS FALSE NEIGHBOUR: 'it returns false'. Refute it at one input. -/
def alarmPlaysWrong : ChangeSpec := { name := "alarmPlays", fn := fun _ => fun
  | [d1, d2, d3] => { results := [.lit (.bool false)], args := [d1, d2, d3] }
  | _ => none }
def AlarmPlaysWrongFalsely : Prop := alarmPlaysRow.holds Try.pinned (OpenSpec.ofChange alarmPlaysWrong)

/-- 'mullionlaw20.AlarmNames': WHATEVER THE INPUT: true; the input reads as it did. -/
def alarmNamesSpec : ChangeSpec := { name := "alarmNames", fn := fun _ => fun
  | [] => { results := [.lit (.bool true)], args := [] }
  | _ => none }
def alarmNamesRow : OpenClaim := { program := "ytcjmkpphohkofaa", sum := "97c40d01da169f8c542422cd3620c1d4a7aa20d7da312d6609f01d56c258464f", func := "mullion/mullionlaw20.AlarmNames", spec := "alarmNames", inPlace := ["slices.overlaps[mullion/alarm.alarm]"], unfollowed := true, recurses := true, apart := false }
def AlarmNamesSaid : Prop := alarmNamesRow.holds Try.pinned (OpenSpec.ofChange alarmNamesSpec)

/-- ITS FALSE NEIGHBOUR: 'it returns false'. Refute it at one input. -/
def alarmNamesWrong : ChangeSpec := { name := "alarmNames", fn := fun _ => fun
  | [] => { results := [.lit (.bool false)], args := [] }
  | _ => none }
def AlarmNamesWrongFalsely : Prop := alarmNamesRow.holds Try.pinned (OpenSpec.ofChange alarmNamesWrong)

/- THE SECOND FORM. 'bulk': how many values and letters a reading holds, each counted each time it is reached (what is shared counts as often as it is met; a slice's spare places count too). A statement '..UptoSaid' is the law's where the arguments, and the package variables that the reading takes, are together of bulk at most 1048576: NARROWER than '..Said'. Prove '..Said' where nothing that the law and all that it calls make is longer than what came in: it says more and counts as full. Else prove '..UptoSaid'. A law counts once. -/
mutual
def uptoBulk {H : Type} : DataW H → Nat
  | .lit (.string bytes) => bytes.length + 1
  | .lit _ => 1
  | .nil => 1
  | .ptr d => uptoBulk d + 1
  | .slice elems spare => uptoBulkAll elems + uptoBulkAll spare + 1
  | .agg parts => uptoBulkAll parts + 1
  | .iface _ d => uptoBulk d + 1
  | .map entries => uptoBulkEntries entries + 1
  | .held _ => 1
def uptoBulkAll {H : Type} : List (DataW H) → Nat
  | [] => 0
  | d :: r => uptoBulk d + uptoBulkAll r
def uptoBulkEntries {H : Type} : List (Lit × DataW H) → Nat
  | [] => 0
  | x :: r => uptoBulkEntry x + uptoBulkEntries r
def uptoBulkEntry {H : Type} : Lit × DataW H → Nat
  | (.string bytes, d) => bytes.length + uptoBulk d + 1
  | (_, d) => uptoBulk d + 1
 end
def uptoSmall : (H : Type) → List (DataW H) → Bool := fun _ ds => decide (uptoBulkAll ds ≤ 1048576)
def OpenSpec.upto (s : _root_.Go.ChangeSpec) : _root_.Go.OpenSpec := { _root_.Go.OpenSpec.ofChange s with cond := some uptoSmall }

/-- 'mullionlaw20.AlarmTimes', WHERE WHAT IT READS IS OF BULK AT MOST 1048576: true; the input reads as it did. -/
def alarmTimesUptoRow : OpenClaim := { program := "ytcjmkpphohkofaa", sum := "97c40d01da169f8c542422cd3620c1d4a7aa20d7da312d6609f01d56c258464f", func := "mullion/mullionlaw20.AlarmTimes", spec := "alarmTimes", inPlace := ["slices.overlaps[mullion/alarm.alarm]"], unfollowed := true, recurses := true, apart := false, narrowed := true }
def AlarmTimesUptoSaid : Prop := alarmTimesUptoRow.holds Try.pinned (OpenSpec.upto alarmTimesSpec)

/-- 'mullionlaw20.AlarmNext', WHERE WHAT IT READS IS OF BULK AT MOST 1048576: true; the input reads as it did. -/
def alarmNextUptoRow : OpenClaim := { program := "ytcjmkpphohkofaa", sum := "97c40d01da169f8c542422cd3620c1d4a7aa20d7da312d6609f01d56c258464f", func := "mullion/mullionlaw20.AlarmNext", spec := "alarmNext", inPlace := ["slices.overlaps[mullion/alarm.alarm]"], unfollowed := true, recurses := true, apart := false, narrowed := true }
def AlarmNextUptoSaid : Prop := alarmNextUptoRow.holds Try.pinned (OpenSpec.upto alarmNextSpec)

/-- 'mullionlaw20.AlarmDrops', WHERE WHAT IT READS IS OF BULK AT MOST 1048576: true; the input reads as it did. -/
def alarmDropsUptoRow : OpenClaim := { program := "ytcjmkpphohkofaa", sum := "97c40d01da169f8c542422cd3620c1d4a7aa20d7da312d6609f01d56c258464f", func := "mullion/mullionlaw20.AlarmDrops", spec := "alarmDrops", inPlace := ["slices.overlaps[mullion/alarm.alarm]"], unfollowed := true, recurses := true, apart := false, narrowed := true }
def AlarmDropsUptoSaid : Prop := alarmDropsUptoRow.holds Try.pinned (OpenSpec.upto alarmDropsSpec)

/-- 'mullionlaw20.AlarmPlays', WHERE WHAT IT READS IS OF BULK AT MOST 1048576: true; the input reads as it did. -/
def alarmPlaysUptoRow : OpenClaim := { program := "ytcjmkpphohkofaa", sum := "97c40d01da169f8c542422cd3620c1d4a7aa20d7da312d6609f01d56c258464f", func := "mullion/mullionlaw20.AlarmPlays", spec := "alarmPlays", inPlace := ["slices.overlaps[mullion/alarm.alarm]"], unfollowed := true, recurses := true, apart := false, narrowed := true }
def AlarmPlaysUptoSaid : Prop := alarmPlaysUptoRow.holds Try.pinned (OpenSpec.upto alarmPlaysSpec)

/-- 'mullionlaw20.AlarmNames', WHERE WHAT IT READS IS OF BULK AT MOST 1048576: true; the input reads as it did. -/
def alarmNamesUptoRow : OpenClaim := { program := "ytcjmkpphohkofaa", sum := "97c40d01da169f8c542422cd3620c1d4a7aa20d7da312d6609f01d56c258464f", func := "mullion/mullionlaw20.AlarmNames", spec := "alarmNames", inPlace := ["slices.overlaps[mullion/alarm.alarm]"], unfollowed := true, recurses := true, apart := false, narrowed := true }
def AlarmNamesUptoSaid : Prop := alarmNamesUptoRow.holds Try.pinned (OpenSpec.upto alarmNamesSpec)

end Rows
end Go.Proofs.Ytcjmkpphohkofaa
