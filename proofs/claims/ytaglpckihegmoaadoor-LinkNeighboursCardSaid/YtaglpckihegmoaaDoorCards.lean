/-
  DERIVED. GIVEN WITH THE SEED: THE CARDS: each row of YtaglpckihegmoaaDoorRows.lean that lists a variable, with what it lists TIED to the program's text (the seventh form; the later family's looks); each row that meets fmt, with fmt's text TOLD by the authors' own Lean function (tested against real Go, not proved from fmt's source: count such statements apart). THE CARD IS WHAT COUNTS. Prove the row's statement (the work); the ties are given (YtaglpckihegmoaaDoorTie.lean); close each card by the builder's one call (the guide's Derived/Test/ToyasCard.lean, 'card_holds'). Laid BY PROGRAM, IN A SANDBOX (cutbox-door.mjs). By AI agents, Wed Nov 11 2026. No macro, syntax, notation, axiom, sorry.
-/
import Derived.Test.YtaglpckihegmoaaDoorRows
import GoSem.ClaimSeven
namespace Go.Proofs.YtaglpckihegmoaaDoor
namespace Rows

/-- THE TIED CARD OF 'nomenclatorlaw11.LinkServers'. -/
def linkServersCard : Claim7 := { stood := { row := linkServersRow, standIns := [], harness := (true, "9d3084392254adb2f439078cb278cf0f9f8cfa36a3a0832ebf5c18555fe4bb34"), looks := false }, kinds := [], alts := [], laidByText := true, laidKinds := [.data, .data, .data, .pinned, .pinned], laidTests := true, laidLooks := .later }
def LinkServersCardSaid : Prop := Claim7.holds Tryd.pinned (.plain (OpenSpec.ofChange linkServersSpec)) linkServersCard

/-- THE TIED CARD OF 'nomenclatorlaw11.LinkLongest'. -/
def linkLongestCard : Claim7 := { stood := { row := linkLongestRow, standIns := [], harness := (true, "9d3084392254adb2f439078cb278cf0f9f8cfa36a3a0832ebf5c18555fe4bb34"), looks := false }, kinds := [], alts := [], laidByText := true, laidKinds := [.data, .data, .data, .pinned, .pinned], laidTests := true, laidLooks := .later }
def LinkLongestCardSaid : Prop := Claim7.holds Tryd.pinned (.plain (OpenSpec.ofChange linkLongestSpec)) linkLongestCard

/-- THE TIED CARD OF 'nomenclatorlaw11.LinkLocals'. -/
def linkLocalsCard : Claim7 := { stood := { row := linkLocalsRow, standIns := [], harness := (true, "9d3084392254adb2f439078cb278cf0f9f8cfa36a3a0832ebf5c18555fe4bb34"), looks := false }, kinds := [], alts := [], laidByText := true, laidKinds := [.data, .data, .data, .pinned, .pinned], laidTests := true, laidLooks := .later }
def LinkLocalsCardSaid : Prop := Claim7.holds Tryd.pinned (.plain (OpenSpec.ofChange linkLocalsSpec)) linkLocalsCard

/-- THE TIED CARD OF 'nomenclatorlaw11.LinkNeighbours'. -/
def linkNeighboursCard : Claim7 := { stood := { row := linkNeighboursRow, standIns := [], harness := (true, "9d3084392254adb2f439078cb278cf0f9f8cfa36a3a0832ebf5c18555fe4bb34"), looks := false }, kinds := [], alts := [], laidByText := true, laidKinds := [.data, .data, .data, .pinned, .pinned], laidTests := true, laidLooks := .later }
def LinkNeighboursCardSaid : Prop := Claim7.holds Tryd.pinned (.plain (OpenSpec.ofChange linkNeighboursSpec)) linkNeighboursCard

/-- THE TIED CARD OF 'nomenclatorlaw11.LinkRuns'. -/
def linkRunsCard : Claim7 := { stood := { row := linkRunsRow, standIns := [], harness := (true, "9d3084392254adb2f439078cb278cf0f9f8cfa36a3a0832ebf5c18555fe4bb34"), looks := false }, kinds := [], alts := [], laidByText := true, laidKinds := [.data, .data, .data, .pinned, .pinned], laidTests := true, laidLooks := .later }
def LinkRunsCardSaid : Prop := Claim7.holds Tryd.pinned (.plain (OpenSpec.ofChange linkRunsSpec)) linkRunsCard

/-- THE TIED CARD OF 'nomenclatorlaw11.LinkGens'. -/
def linkGensCard : Claim7 := { stood := { row := linkGensRow, standIns := [], harness := (true, "9d3084392254adb2f439078cb278cf0f9f8cfa36a3a0832ebf5c18555fe4bb34"), looks := false }, kinds := [], alts := [], laidByText := true, laidKinds := [.data, .data, .data, .pinned, .pinned], laidTests := true, laidLooks := .later }
def LinkGensCardSaid : Prop := Claim7.holds Tryd.pinned (.plain (OpenSpec.ofChange linkGensSpec)) linkGensCard

/-- THE SECOND FORM's CARD OF 'nomenclatorlaw11.LinkServers'. -/
def linkServersUptoCard : Claim7 := { stood := { row := linkServersUptoRow, standIns := [], harness := (true, "9d3084392254adb2f439078cb278cf0f9f8cfa36a3a0832ebf5c18555fe4bb34"), looks := false }, kinds := [], alts := [], laidByText := true, laidKinds := [.data, .data, .data, .pinned, .pinned], laidTests := true, laidLooks := .later }
def LinkServersUptoCardSaid : Prop := Claim7.holds Tryd.pinned (.plain (OpenSpec.upto linkServersSpec)) linkServersUptoCard

/-- THE SECOND FORM's CARD OF 'nomenclatorlaw11.LinkLongest'. -/
def linkLongestUptoCard : Claim7 := { stood := { row := linkLongestUptoRow, standIns := [], harness := (true, "9d3084392254adb2f439078cb278cf0f9f8cfa36a3a0832ebf5c18555fe4bb34"), looks := false }, kinds := [], alts := [], laidByText := true, laidKinds := [.data, .data, .data, .pinned, .pinned], laidTests := true, laidLooks := .later }
def LinkLongestUptoCardSaid : Prop := Claim7.holds Tryd.pinned (.plain (OpenSpec.upto linkLongestSpec)) linkLongestUptoCard

/-- THE SECOND FORM's CARD OF 'nomenclatorlaw11.LinkLocals'. -/
def linkLocalsUptoCard : Claim7 := { stood := { row := linkLocalsUptoRow, standIns := [], harness := (true, "9d3084392254adb2f439078cb278cf0f9f8cfa36a3a0832ebf5c18555fe4bb34"), looks := false }, kinds := [], alts := [], laidByText := true, laidKinds := [.data, .data, .data, .pinned, .pinned], laidTests := true, laidLooks := .later }
def LinkLocalsUptoCardSaid : Prop := Claim7.holds Tryd.pinned (.plain (OpenSpec.upto linkLocalsSpec)) linkLocalsUptoCard

/-- THE SECOND FORM's CARD OF 'nomenclatorlaw11.LinkNeighbours'. -/
def linkNeighboursUptoCard : Claim7 := { stood := { row := linkNeighboursUptoRow, standIns := [], harness := (true, "9d3084392254adb2f439078cb278cf0f9f8cfa36a3a0832ebf5c18555fe4bb34"), looks := false }, kinds := [], alts := [], laidByText := true, laidKinds := [.data, .data, .data, .pinned, .pinned], laidTests := true, laidLooks := .later }
def LinkNeighboursUptoCardSaid : Prop := Claim7.holds Tryd.pinned (.plain (OpenSpec.upto linkNeighboursSpec)) linkNeighboursUptoCard

/-- THE SECOND FORM's CARD OF 'nomenclatorlaw11.LinkRuns'. -/
def linkRunsUptoCard : Claim7 := { stood := { row := linkRunsUptoRow, standIns := [], harness := (true, "9d3084392254adb2f439078cb278cf0f9f8cfa36a3a0832ebf5c18555fe4bb34"), looks := false }, kinds := [], alts := [], laidByText := true, laidKinds := [.data, .data, .data, .pinned, .pinned], laidTests := true, laidLooks := .later }
def LinkRunsUptoCardSaid : Prop := Claim7.holds Tryd.pinned (.plain (OpenSpec.upto linkRunsSpec)) linkRunsUptoCard

/-- THE SECOND FORM's CARD OF 'nomenclatorlaw11.LinkGens'. -/
def linkGensUptoCard : Claim7 := { stood := { row := linkGensUptoRow, standIns := [], harness := (true, "9d3084392254adb2f439078cb278cf0f9f8cfa36a3a0832ebf5c18555fe4bb34"), looks := false }, kinds := [], alts := [], laidByText := true, laidKinds := [.data, .data, .data, .pinned, .pinned], laidTests := true, laidLooks := .later }
def LinkGensUptoCardSaid : Prop := Claim7.holds Tryd.pinned (.plain (OpenSpec.upto linkGensSpec)) linkGensUptoCard
end Rows
end Go.Proofs.YtaglpckihegmoaaDoor
