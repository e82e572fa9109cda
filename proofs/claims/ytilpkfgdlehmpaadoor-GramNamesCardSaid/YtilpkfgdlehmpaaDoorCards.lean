/-
  DERIVED. GIVEN WITH THE SEED: THE CARDS: each row of YtilpkfgdlehmpaaDoorRows.lean that lists a variable, with what it lists TIED to the program's text (the seventh form; the later family's looks); each row that meets fmt, with fmt's text TOLD by the authors' own Lean function (tested against real Go, not proved from fmt's source: count such statements apart). THE CARD IS WHAT COUNTS. Prove the row's statement (the work); the ties are given (YtilpkfgdlehmpaaDoorTie.lean); close each card by the builder's one call (the guide's Derived/Test/ToyasCard.lean, 'card_holds'). Laid BY PROGRAM, IN A SANDBOX (cutbox-door.mjs). By AI agents, Wed Nov 11 2026. No macro, syntax, notation, axiom, sorry.
-/
import Derived.Test.YtilpkfgdlehmpaaDoorRows
import GoSem.ClaimSeven
namespace Go.Proofs.YtilpkfgdlehmpaaDoor
namespace Rows

/-- THE TIED CARD OF 'mullionlaw18.GramWrites'. -/
def gramWritesCard : Claim7 := { stood := { row := gramWritesRow, standIns := [], harness := (true, "216a733abf1f82e295875bfc1215c56097a624847fe3f10552fa86547e88f63e"), looks := false }, kinds := [], alts := [], laidByText := true, laidKinds := [.data, .data, .data], laidTests := true, laidLooks := .later }
def GramWritesCardSaid : Prop := Claim7.holds Tryd.pinned (.plain (OpenSpec.ofChange gramWritesSpec)) gramWritesCard

/-- THE TIED CARD OF 'mullionlaw18.GramApart'. -/
def gramApartCard : Claim7 := { stood := { row := gramApartRow, standIns := [], harness := (true, "216a733abf1f82e295875bfc1215c56097a624847fe3f10552fa86547e88f63e"), looks := false }, kinds := [], alts := [], laidByText := true, laidKinds := [.data, .data, .data], laidTests := true, laidLooks := .later }
def GramApartCardSaid : Prop := Claim7.holds Tryd.pinned (.plain (OpenSpec.ofChange gramApartSpec)) gramApartCard

/-- THE TIED CARD OF 'mullionlaw18.GramSpoilt'. -/
def gramSpoiltCard : Claim7 := { stood := { row := gramSpoiltRow, standIns := [], harness := (true, "216a733abf1f82e295875bfc1215c56097a624847fe3f10552fa86547e88f63e"), looks := false }, kinds := [], alts := [], laidByText := true, laidKinds := [.data, .data, .data], laidTests := true, laidLooks := .later }
def GramSpoiltCardSaid : Prop := Claim7.holds Tryd.pinned (.plain (OpenSpec.ofChange gramSpoiltSpec)) gramSpoiltCard

/-- THE TIED CARD OF 'mullionlaw18.GramNames'. -/
def gramNamesCard : Claim7 := { stood := { row := gramNamesRow, standIns := [], harness := (true, "216a733abf1f82e295875bfc1215c56097a624847fe3f10552fa86547e88f63e"), looks := false }, kinds := [], alts := [], laidByText := true, laidKinds := [.data, .data, .data], laidTests := true, laidLooks := .later }
def GramNamesCardSaid : Prop := Claim7.holds Tryd.pinned (.plain (OpenSpec.ofChange gramNamesSpec)) gramNamesCard

/-- THE TIED CARD OF 'mullionlaw18.GramBack'. -/
def gramBackCard : Claim7 := { stood := { row := gramBackRow, standIns := [], harness := (true, "216a733abf1f82e295875bfc1215c56097a624847fe3f10552fa86547e88f63e"), looks := false }, kinds := [], alts := [], laidByText := true, laidKinds := [.data, .data, .data], laidTests := true, laidLooks := .later }
def GramBackCardSaid : Prop := Claim7.holds Tryd.pinned (.plain (OpenSpec.ofChange gramBackSpec)) gramBackCard

/-- THE SECOND FORM's CARD OF 'mullionlaw18.GramWrites'. -/
def gramWritesUptoCard : Claim7 := { stood := { row := gramWritesUptoRow, standIns := [], harness := (true, "216a733abf1f82e295875bfc1215c56097a624847fe3f10552fa86547e88f63e"), looks := false }, kinds := [], alts := [], laidByText := true, laidKinds := [.data, .data, .data], laidTests := true, laidLooks := .later }
def GramWritesUptoCardSaid : Prop := Claim7.holds Tryd.pinned (.plain (OpenSpec.upto gramWritesSpec)) gramWritesUptoCard

/-- THE SECOND FORM's CARD OF 'mullionlaw18.GramApart'. -/
def gramApartUptoCard : Claim7 := { stood := { row := gramApartUptoRow, standIns := [], harness := (true, "216a733abf1f82e295875bfc1215c56097a624847fe3f10552fa86547e88f63e"), looks := false }, kinds := [], alts := [], laidByText := true, laidKinds := [.data, .data, .data], laidTests := true, laidLooks := .later }
def GramApartUptoCardSaid : Prop := Claim7.holds Tryd.pinned (.plain (OpenSpec.upto gramApartSpec)) gramApartUptoCard

/-- THE SECOND FORM's CARD OF 'mullionlaw18.GramSpoilt'. -/
def gramSpoiltUptoCard : Claim7 := { stood := { row := gramSpoiltUptoRow, standIns := [], harness := (true, "216a733abf1f82e295875bfc1215c56097a624847fe3f10552fa86547e88f63e"), looks := false }, kinds := [], alts := [], laidByText := true, laidKinds := [.data, .data, .data], laidTests := true, laidLooks := .later }
def GramSpoiltUptoCardSaid : Prop := Claim7.holds Tryd.pinned (.plain (OpenSpec.upto gramSpoiltSpec)) gramSpoiltUptoCard

/-- THE SECOND FORM's CARD OF 'mullionlaw18.GramNames'. -/
def gramNamesUptoCard : Claim7 := { stood := { row := gramNamesUptoRow, standIns := [], harness := (true, "216a733abf1f82e295875bfc1215c56097a624847fe3f10552fa86547e88f63e"), looks := false }, kinds := [], alts := [], laidByText := true, laidKinds := [.data, .data, .data], laidTests := true, laidLooks := .later }
def GramNamesUptoCardSaid : Prop := Claim7.holds Tryd.pinned (.plain (OpenSpec.upto gramNamesSpec)) gramNamesUptoCard

/-- THE SECOND FORM's CARD OF 'mullionlaw18.GramBack'. -/
def gramBackUptoCard : Claim7 := { stood := { row := gramBackUptoRow, standIns := [], harness := (true, "216a733abf1f82e295875bfc1215c56097a624847fe3f10552fa86547e88f63e"), looks := false }, kinds := [], alts := [], laidByText := true, laidKinds := [.data, .data, .data], laidTests := true, laidLooks := .later }
def GramBackUptoCardSaid : Prop := Claim7.holds Tryd.pinned (.plain (OpenSpec.upto gramBackSpec)) gramBackUptoCard
end Rows
end Go.Proofs.YtilpkfgdlehmpaaDoor
