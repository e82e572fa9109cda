/-
  DERIVED. GIVEN WITH THE SEED: THE CARDS: each row of YtkoajbmomipjkaaDoorRows.lean that lists a variable, with what it lists TIED to the program's text (the seventh form; the later family's looks); each row that meets fmt, with fmt's text TOLD by the authors' own Lean function (tested against real Go, not proved from fmt's source: count such statements apart). THE CARD IS WHAT COUNTS. Prove the row's statement (the work); the ties are given (YtkoajbmomipjkaaDoorTie.lean); close each card by the builder's one call (the guide's Derived/Test/ToyasCard.lean, 'card_holds'). Laid BY PROGRAM, IN A SANDBOX (cutbox-door.mjs). By AI agents, Wed Nov 11 2026. No macro, syntax, notation, axiom, sorry.
-/
import Derived.Test.YtkoajbmomipjkaaDoorRows
import GoSem.ClaimSeven
namespace Go.Proofs.YtkoajbmomipjkaaDoor
namespace Rows

/-- THE TIED CARD OF 'mullionlaw19.WindowRoom'. -/
def windowRoomCard : Claim7 := { stood := { row := windowRoomRow, standIns := [], harness := (true, "92df918a9bf5a7847a670fa6a8f03b28bafdf043adb36e01ead52d13a8cf109b"), looks := false }, kinds := [], alts := [], laidByText := true, laidKinds := [.data], laidTests := true, laidLooks := .later }
def WindowRoomCardSaid : Prop := Claim7.holds Tryd.pinned (.plain (OpenSpec.ofChange windowRoomSpec)) windowRoomCard

/-- THE TIED CARD OF 'mullionlaw19.WindowMet'. -/
def windowMetCard : Claim7 := { stood := { row := windowMetRow, standIns := [], harness := (true, "92df918a9bf5a7847a670fa6a8f03b28bafdf043adb36e01ead52d13a8cf109b"), looks := false }, kinds := [], alts := [], laidByText := true, laidKinds := [.data], laidTests := true, laidLooks := .later }
def WindowMetCardSaid : Prop := Claim7.holds Tryd.pinned (.plain (OpenSpec.ofChange windowMetSpec)) windowMetCard

/-- THE TIED CARD OF 'mullionlaw19.WindowSums'. -/
def windowSumsCard : Claim7 := { stood := { row := windowSumsRow, standIns := [], harness := (true, "92df918a9bf5a7847a670fa6a8f03b28bafdf043adb36e01ead52d13a8cf109b"), looks := false }, kinds := [], alts := [], laidByText := true, laidKinds := [.data], laidTests := true, laidLooks := .later }
def WindowSumsCardSaid : Prop := Claim7.holds Tryd.pinned (.plain (OpenSpec.ofChange windowSumsSpec)) windowSumsCard

/-- THE TIED CARD OF 'mullionlaw19.WindowPlays'. -/
def windowPlaysCard : Claim7 := { stood := { row := windowPlaysRow, standIns := [], harness := (true, "92df918a9bf5a7847a670fa6a8f03b28bafdf043adb36e01ead52d13a8cf109b"), looks := false }, kinds := [], alts := [], laidByText := true, laidKinds := [.data], laidTests := true, laidLooks := .later }
def WindowPlaysCardSaid : Prop := Claim7.holds Tryd.pinned (.plain (OpenSpec.ofChange windowPlaysSpec)) windowPlaysCard

/-- THE TIED CARD OF 'mullionlaw19.WindowNames'. -/
def windowNamesCard : Claim7 := { stood := { row := windowNamesRow, standIns := [], harness := (true, "92df918a9bf5a7847a670fa6a8f03b28bafdf043adb36e01ead52d13a8cf109b"), looks := false }, kinds := [], alts := [], laidByText := true, laidKinds := [.data], laidTests := true, laidLooks := .later }
def WindowNamesCardSaid : Prop := Claim7.holds Tryd.pinned (.plain (OpenSpec.ofChange windowNamesSpec)) windowNamesCard

/-- THE SECOND FORM's CARD OF 'mullionlaw19.WindowRoom'. -/
def windowRoomUptoCard : Claim7 := { stood := { row := windowRoomUptoRow, standIns := [], harness := (true, "92df918a9bf5a7847a670fa6a8f03b28bafdf043adb36e01ead52d13a8cf109b"), looks := false }, kinds := [], alts := [], laidByText := true, laidKinds := [.data], laidTests := true, laidLooks := .later }
def WindowRoomUptoCardSaid : Prop := Claim7.holds Tryd.pinned (.plain (OpenSpec.upto windowRoomSpec)) windowRoomUptoCard

/-- THE SECOND FORM's CARD OF 'mullionlaw19.WindowMet'. -/
def windowMetUptoCard : Claim7 := { stood := { row := windowMetUptoRow, standIns := [], harness := (true, "92df918a9bf5a7847a670fa6a8f03b28bafdf043adb36e01ead52d13a8cf109b"), looks := false }, kinds := [], alts := [], laidByText := true, laidKinds := [.data], laidTests := true, laidLooks := .later }
def WindowMetUptoCardSaid : Prop := Claim7.holds Tryd.pinned (.plain (OpenSpec.upto windowMetSpec)) windowMetUptoCard

/-- THE SECOND FORM's CARD OF 'mullionlaw19.WindowSums'. -/
def windowSumsUptoCard : Claim7 := { stood := { row := windowSumsUptoRow, standIns := [], harness := (true, "92df918a9bf5a7847a670fa6a8f03b28bafdf043adb36e01ead52d13a8cf109b"), looks := false }, kinds := [], alts := [], laidByText := true, laidKinds := [.data], laidTests := true, laidLooks := .later }
def WindowSumsUptoCardSaid : Prop := Claim7.holds Tryd.pinned (.plain (OpenSpec.upto windowSumsSpec)) windowSumsUptoCard

/-- THE SECOND FORM's CARD OF 'mullionlaw19.WindowPlays'. -/
def windowPlaysUptoCard : Claim7 := { stood := { row := windowPlaysUptoRow, standIns := [], harness := (true, "92df918a9bf5a7847a670fa6a8f03b28bafdf043adb36e01ead52d13a8cf109b"), looks := false }, kinds := [], alts := [], laidByText := true, laidKinds := [.data], laidTests := true, laidLooks := .later }
def WindowPlaysUptoCardSaid : Prop := Claim7.holds Tryd.pinned (.plain (OpenSpec.upto windowPlaysSpec)) windowPlaysUptoCard

/-- THE SECOND FORM's CARD OF 'mullionlaw19.WindowNames'. -/
def windowNamesUptoCard : Claim7 := { stood := { row := windowNamesUptoRow, standIns := [], harness := (true, "92df918a9bf5a7847a670fa6a8f03b28bafdf043adb36e01ead52d13a8cf109b"), looks := false }, kinds := [], alts := [], laidByText := true, laidKinds := [.data], laidTests := true, laidLooks := .later }
def WindowNamesUptoCardSaid : Prop := Claim7.holds Tryd.pinned (.plain (OpenSpec.upto windowNamesSpec)) windowNamesUptoCard
end Rows
end Go.Proofs.YtkoajbmomipjkaaDoor
