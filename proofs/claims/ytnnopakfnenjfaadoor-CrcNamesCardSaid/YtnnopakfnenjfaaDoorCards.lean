/-
  DERIVED. GIVEN WITH THE SEED: THE CARDS: each row of YtnnopakfnenjfaaDoorRows.lean that lists a variable, with what it lists TIED to the program's text (the seventh form; the later family's looks); each row that meets fmt, with fmt's text TOLD by the authors' own Lean function (tested against real Go, not proved from fmt's source: count such statements apart). THE CARD IS WHAT COUNTS. Prove the row's statement (the work); the ties are given (YtnnopakfnenjfaaDoorTie.lean); close each card by the builder's one call (the guide's Derived/Test/ToyasCard.lean, 'card_holds'). Laid BY PROGRAM, IN A SANDBOX (cutbox-door.mjs). By AI agents, Wed Nov 11 2026. No macro, syntax, notation, axiom, sorry.
-/
import Derived.Test.YtnnopakfnenjfaaDoorRows
import GoSem.ClaimSeven
namespace Go.Proofs.YtnnopakfnenjfaaDoor
namespace Rows

/-- THE TIED CARD OF 'mullionlaw04.CrcSums'. -/
def crcSumsCard : Claim7 := { stood := { row := crcSumsRow, standIns := [], harness := (true, "bc0002532cf1b3442c22fb44b53e61ba75505d661b4ec6d7dca1fdb1f079c050"), looks := false }, kinds := [], alts := [], laidByText := true, laidKinds := [.data], laidTests := true, laidLooks := .later }
def CrcSumsCardSaid : Prop := Claim7.holds Tryd.pinned (.plain (OpenSpec.ofChange crcSumsSpec)) crcSumsCard

/-- THE TIED CARD OF 'mullionlaw04.CrcParts'. -/
def crcPartsCard : Claim7 := { stood := { row := crcPartsRow, standIns := [], harness := (true, "bc0002532cf1b3442c22fb44b53e61ba75505d661b4ec6d7dca1fdb1f079c050"), looks := false }, kinds := [], alts := [], laidByText := true, laidKinds := [.data], laidTests := true, laidLooks := .later }
def CrcPartsCardSaid : Prop := Claim7.holds Tryd.pinned (.plain (OpenSpec.ofChange crcPartsSpec)) crcPartsCard

/-- THE TIED CARD OF 'mullionlaw04.CrcNames'. -/
def crcNamesCard : Claim7 := { stood := { row := crcNamesRow, standIns := [], harness := (true, "bc0002532cf1b3442c22fb44b53e61ba75505d661b4ec6d7dca1fdb1f079c050"), looks := false }, kinds := [], alts := [], laidByText := true, laidKinds := [.data], laidTests := true, laidLooks := .later }
def CrcNamesCardSaid : Prop := Claim7.holds Tryd.pinned (.plain (OpenSpec.ofChange crcNamesSpec)) crcNamesCard

/-- THE SECOND FORM's CARD OF 'mullionlaw04.CrcSums'. -/
def crcSumsUptoCard : Claim7 := { stood := { row := crcSumsUptoRow, standIns := [], harness := (true, "bc0002532cf1b3442c22fb44b53e61ba75505d661b4ec6d7dca1fdb1f079c050"), looks := false }, kinds := [], alts := [], laidByText := true, laidKinds := [.data], laidTests := true, laidLooks := .later }
def CrcSumsUptoCardSaid : Prop := Claim7.holds Tryd.pinned (.plain (OpenSpec.upto crcSumsSpec)) crcSumsUptoCard

/-- THE SECOND FORM's CARD OF 'mullionlaw04.CrcParts'. -/
def crcPartsUptoCard : Claim7 := { stood := { row := crcPartsUptoRow, standIns := [], harness := (true, "bc0002532cf1b3442c22fb44b53e61ba75505d661b4ec6d7dca1fdb1f079c050"), looks := false }, kinds := [], alts := [], laidByText := true, laidKinds := [.data], laidTests := true, laidLooks := .later }
def CrcPartsUptoCardSaid : Prop := Claim7.holds Tryd.pinned (.plain (OpenSpec.upto crcPartsSpec)) crcPartsUptoCard

/-- THE SECOND FORM's CARD OF 'mullionlaw04.CrcNames'. -/
def crcNamesUptoCard : Claim7 := { stood := { row := crcNamesUptoRow, standIns := [], harness := (true, "bc0002532cf1b3442c22fb44b53e61ba75505d661b4ec6d7dca1fdb1f079c050"), looks := false }, kinds := [], alts := [], laidByText := true, laidKinds := [.data], laidTests := true, laidLooks := .later }
def CrcNamesUptoCardSaid : Prop := Claim7.holds Tryd.pinned (.plain (OpenSpec.upto crcNamesSpec)) crcNamesUptoCard
end Rows
end Go.Proofs.YtnnopakfnenjfaaDoor
