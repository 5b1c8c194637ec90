/-
  DERIVED. GIVEN WITH THE SEED: THE CARDS: each row of YthomfpdigmeheaaDoorRows.lean that lists a variable, with what it lists TIED to the program's text (the seventh form; the later family's looks); each row that meets fmt, with fmt's text TOLD by the authors' own Lean function (tested against real Go, not proved from fmt's source: count such statements apart). THE CARD IS WHAT COUNTS. Prove the row's statement (the work); the ties are given (YthomfpdigmeheaaDoorTie.lean); close each card by the builder's one call (the guide's Derived/Test/ToyasCard.lean, 'card_holds'). Laid BY PROGRAM, IN A SANDBOX (cutbox-door.mjs). By AI agents, Wed Nov 11 2026. No macro, syntax, notation, axiom, sorry.
-/
import Derived.Test.YthomfpdigmeheaaDoorRows
import GoSem.ClaimSeven
namespace Go.Proofs.YthomfpdigmeheaaDoor
namespace Rows

/-- THE TIED CARD OF 'nomenclatorlaw12.CandLists'. -/
def candListsCard : Claim7 := { stood := { row := candListsRow, standIns := [], harness := (true, "bf06e02a96b433aa3d4aa489862c3974ccb20701cd1c1dea7bddb22d03f0e136"), looks := false }, kinds := [], alts := [], laidByText := true, laidKinds := [.data, .data, .data, .pinned, .pinned], laidTests := true, laidLooks := .later }
def CandListsCardSaid : Prop := Claim7.holds Tryd.pinned (.plain (OpenSpec.ofChange candListsSpec)) candListsCard

/-- THE TIED CARD OF 'nomenclatorlaw12.CandNames'. -/
def candNamesCard : Claim7 := { stood := { row := candNamesRow, standIns := [], harness := (true, "bf06e02a96b433aa3d4aa489862c3974ccb20701cd1c1dea7bddb22d03f0e136"), looks := false }, kinds := [], alts := [], laidByText := true, laidKinds := [.data, .data, .data, .pinned, .pinned], laidTests := true, laidLooks := .later }
def CandNamesCardSaid : Prop := Claim7.holds Tryd.pinned (.plain (OpenSpec.ofChange candNamesSpec)) candNamesCard

/-- THE TIED CARD OF 'nomenclatorlaw12.CandDots'. -/
def candDotsCard : Claim7 := { stood := { row := candDotsRow, standIns := [], harness := (true, "bf06e02a96b433aa3d4aa489862c3974ccb20701cd1c1dea7bddb22d03f0e136"), looks := false }, kinds := [], alts := [], laidByText := true, laidKinds := [.data, .data, .data, .pinned, .pinned], laidTests := true, laidLooks := .later }
def CandDotsCardSaid : Prop := Claim7.holds Tryd.pinned (.plain (OpenSpec.ofChange candDotsSpec)) candDotsCard

/-- THE TIED CARD OF 'nomenclatorlaw12.CandLong'. -/
def candLongCard : Claim7 := { stood := { row := candLongRow, standIns := [], harness := (true, "bf06e02a96b433aa3d4aa489862c3974ccb20701cd1c1dea7bddb22d03f0e136"), looks := false }, kinds := [], alts := [], laidByText := true, laidKinds := [.data, .data, .data, .pinned, .pinned], laidTests := true, laidLooks := .later }
def CandLongCardSaid : Prop := Claim7.holds Tryd.pinned (.plain (OpenSpec.ofChange candLongSpec)) candLongCard

/-- THE TIED CARD OF 'nomenclatorlaw12.CandNone'. -/
def candNoneCard : Claim7 := { stood := { row := candNoneRow, standIns := [], harness := (true, "bf06e02a96b433aa3d4aa489862c3974ccb20701cd1c1dea7bddb22d03f0e136"), looks := false }, kinds := [], alts := [], laidByText := true, laidKinds := [.data, .data, .data, .pinned, .pinned], laidTests := true, laidLooks := .later }
def CandNoneCardSaid : Prop := Claim7.holds Tryd.pinned (.plain (OpenSpec.ofChange candNoneSpec)) candNoneCard

/-- THE SECOND FORM's CARD OF 'nomenclatorlaw12.CandLists'. -/
def candListsUptoCard : Claim7 := { stood := { row := candListsUptoRow, standIns := [], harness := (true, "bf06e02a96b433aa3d4aa489862c3974ccb20701cd1c1dea7bddb22d03f0e136"), looks := false }, kinds := [], alts := [], laidByText := true, laidKinds := [.data, .data, .data, .pinned, .pinned], laidTests := true, laidLooks := .later }
def CandListsUptoCardSaid : Prop := Claim7.holds Tryd.pinned (.plain (OpenSpec.upto candListsSpec)) candListsUptoCard

/-- THE SECOND FORM's CARD OF 'nomenclatorlaw12.CandNames'. -/
def candNamesUptoCard : Claim7 := { stood := { row := candNamesUptoRow, standIns := [], harness := (true, "bf06e02a96b433aa3d4aa489862c3974ccb20701cd1c1dea7bddb22d03f0e136"), looks := false }, kinds := [], alts := [], laidByText := true, laidKinds := [.data, .data, .data, .pinned, .pinned], laidTests := true, laidLooks := .later }
def CandNamesUptoCardSaid : Prop := Claim7.holds Tryd.pinned (.plain (OpenSpec.upto candNamesSpec)) candNamesUptoCard

/-- THE SECOND FORM's CARD OF 'nomenclatorlaw12.CandDots'. -/
def candDotsUptoCard : Claim7 := { stood := { row := candDotsUptoRow, standIns := [], harness := (true, "bf06e02a96b433aa3d4aa489862c3974ccb20701cd1c1dea7bddb22d03f0e136"), looks := false }, kinds := [], alts := [], laidByText := true, laidKinds := [.data, .data, .data, .pinned, .pinned], laidTests := true, laidLooks := .later }
def CandDotsUptoCardSaid : Prop := Claim7.holds Tryd.pinned (.plain (OpenSpec.upto candDotsSpec)) candDotsUptoCard

/-- THE SECOND FORM's CARD OF 'nomenclatorlaw12.CandLong'. -/
def candLongUptoCard : Claim7 := { stood := { row := candLongUptoRow, standIns := [], harness := (true, "bf06e02a96b433aa3d4aa489862c3974ccb20701cd1c1dea7bddb22d03f0e136"), looks := false }, kinds := [], alts := [], laidByText := true, laidKinds := [.data, .data, .data, .pinned, .pinned], laidTests := true, laidLooks := .later }
def CandLongUptoCardSaid : Prop := Claim7.holds Tryd.pinned (.plain (OpenSpec.upto candLongSpec)) candLongUptoCard

/-- THE SECOND FORM's CARD OF 'nomenclatorlaw12.CandNone'. -/
def candNoneUptoCard : Claim7 := { stood := { row := candNoneUptoRow, standIns := [], harness := (true, "bf06e02a96b433aa3d4aa489862c3974ccb20701cd1c1dea7bddb22d03f0e136"), looks := false }, kinds := [], alts := [], laidByText := true, laidKinds := [.data, .data, .data, .pinned, .pinned], laidTests := true, laidLooks := .later }
def CandNoneUptoCardSaid : Prop := Claim7.holds Tryd.pinned (.plain (OpenSpec.upto candNoneSpec)) candNoneUptoCard
end Rows
end Go.Proofs.YthomfpdigmeheaaDoor
