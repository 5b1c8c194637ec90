/-
  DERIVED. GIVEN WITH THE SEED: THE CARDS: each row of YtghmlhdlkgjbeaaDoorRows.lean that lists a variable, with what it lists TIED to the program's text (the seventh form; the later family's looks); each row that meets fmt, with fmt's text TOLD by the authors' own Lean function (tested against real Go, not proved from fmt's source: count such statements apart). THE CARD IS WHAT COUNTS. Prove the row's statement (the work); the ties are given (YtghmlhdlkgjbeaaDoorTie.lean); close each card by the builder's one call (the guide's Derived/Test/ToyasCard.lean, 'card_holds'). Laid BY PROGRAM, IN A SANDBOX (cutbox-door.mjs). By AI agents, Wed Nov 11 2026. No macro, syntax, notation, axiom, sorry.
-/
import Derived.Test.YtghmlhdlkgjbeaaDoorRows
import GoSem.ClaimSeven
namespace Go.Proofs.YtghmlhdlkgjbeaaDoor
namespace Rows

/-- THE TIED CARD OF 'nomenclatorlaw05.AddrBack'. -/
def addrBackCard : Claim7 := { stood := { row := addrBackRow, standIns := [], harness := (true, "5ee556f1287a3536df7616f922218f4c835da4ab923470fab85d60497299e706"), looks := true }, kinds := [], alts := [], laidByText := true, laidKinds := [.data, .data, .data, .data, .sentinel, .sentinel, .pinned], laidTests := true, laidLooks := .later }
def AddrBackCardSaid : Prop := Claim7.holds Tryd.pinned (.plain (OpenSpec.ofChange addrBackSpec)) addrBackCard

/-- THE TIED CARD OF 'nomenclatorlaw05.AddrTexts'. -/
def addrTextsCard : Claim7 := { stood := { row := addrTextsRow, standIns := [], harness := (true, "5ee556f1287a3536df7616f922218f4c835da4ab923470fab85d60497299e706"), looks := true }, kinds := [], alts := [], laidByText := true, laidKinds := [.data, .data, .data, .data, .sentinel, .sentinel, .pinned], laidTests := true, laidLooks := .later }
def AddrTextsCardSaid : Prop := Claim7.holds Tryd.pinned (.plain (OpenSpec.ofChange addrTextsSpec)) addrTextsCard

/-- THE TIED CARD OF 'nomenclatorlaw05.AddrFours'. -/
def addrFoursCard : Claim7 := { stood := { row := addrFoursRow, standIns := [], harness := (true, "5ee556f1287a3536df7616f922218f4c835da4ab923470fab85d60497299e706"), looks := true }, kinds := [], alts := [], laidByText := true, laidKinds := [.data, .data, .data, .data, .sentinel, .sentinel, .pinned], laidTests := true, laidLooks := .later }
def AddrFoursCardSaid : Prop := Claim7.holds Tryd.pinned (.plain (OpenSpec.ofChange addrFoursSpec)) addrFoursCard

/-- THE TIED CARD OF 'nomenclatorlaw05.AddrApart'. -/
def addrApartCard : Claim7 := { stood := { row := addrApartRow, standIns := [], harness := (true, "5ee556f1287a3536df7616f922218f4c835da4ab923470fab85d60497299e706"), looks := true }, kinds := [], alts := [], laidByText := true, laidKinds := [.data, .data, .data, .data, .sentinel, .sentinel, .pinned], laidTests := true, laidLooks := .later }
def AddrApartCardSaid : Prop := Claim7.holds Tryd.pinned (.plain (OpenSpec.ofChange addrApartSpec)) addrApartCard

/-- THE TIED CARD OF 'nomenclatorlaw05.AddrNoughts'. -/
def addrNoughtsCard : Claim7 := { stood := { row := addrNoughtsRow, standIns := [], harness := (true, "5ee556f1287a3536df7616f922218f4c835da4ab923470fab85d60497299e706"), looks := true }, kinds := [], alts := [], laidByText := true, laidKinds := [.data, .data, .data, .data, .sentinel, .sentinel, .pinned], laidTests := true, laidLooks := .later }
def AddrNoughtsCardSaid : Prop := Claim7.holds Tryd.pinned (.plain (OpenSpec.ofChange addrNoughtsSpec)) addrNoughtsCard

/-- THE TIED CARD OF 'nomenclatorlaw05.AddrShared'. -/
def addrSharedCard : Claim7 := { stood := { row := addrSharedRow, standIns := [], harness := (true, "5ee556f1287a3536df7616f922218f4c835da4ab923470fab85d60497299e706"), looks := true }, kinds := [], alts := [], laidByText := true, laidKinds := [.data, .data, .data, .data, .sentinel, .sentinel, .pinned], laidTests := true, laidLooks := .later }
def AddrSharedCardSaid : Prop := Claim7.holds Tryd.pinned (.plain (OpenSpec.ofChange addrSharedSpec)) addrSharedCard

/-- THE TIED CARD OF 'nomenclatorlaw05.AddrBits'. -/
def addrBitsCard : Claim7 := { stood := { row := addrBitsRow, standIns := [], harness := (true, "5ee556f1287a3536df7616f922218f4c835da4ab923470fab85d60497299e706"), looks := true }, kinds := [], alts := [], laidByText := true, laidKinds := [.data, .data, .data, .data, .sentinel, .sentinel, .pinned], laidTests := true, laidLooks := .later }
def AddrBitsCardSaid : Prop := Claim7.holds Tryd.pinned (.plain (OpenSpec.ofChange addrBitsSpec)) addrBitsCard

/-- THE TIED CARD OF 'nomenclatorlaw05.AddrReverses'. -/
def addrReversesCard : Claim7 := { stood := { row := addrReversesRow, standIns := [], harness := (true, "5ee556f1287a3536df7616f922218f4c835da4ab923470fab85d60497299e706"), looks := true }, kinds := [], alts := [], laidByText := true, laidKinds := [.data, .data, .data, .data, .sentinel, .sentinel, .pinned], laidTests := true, laidLooks := .later }
def AddrReversesCardSaid : Prop := Claim7.holds Tryd.pinned (.plain (OpenSpec.ofChange addrReversesSpec)) addrReversesCard

/-- THE SECOND FORM's CARD OF 'nomenclatorlaw05.AddrBack'. -/
def addrBackUptoCard : Claim7 := { stood := { row := addrBackUptoRow, standIns := [], harness := (true, "5ee556f1287a3536df7616f922218f4c835da4ab923470fab85d60497299e706"), looks := true }, kinds := [], alts := [], laidByText := true, laidKinds := [.data, .data, .data, .data, .sentinel, .sentinel, .pinned], laidTests := true, laidLooks := .later }
def AddrBackUptoCardSaid : Prop := Claim7.holds Tryd.pinned (.plain (OpenSpec.upto addrBackSpec)) addrBackUptoCard

/-- THE SECOND FORM's CARD OF 'nomenclatorlaw05.AddrTexts'. -/
def addrTextsUptoCard : Claim7 := { stood := { row := addrTextsUptoRow, standIns := [], harness := (true, "5ee556f1287a3536df7616f922218f4c835da4ab923470fab85d60497299e706"), looks := true }, kinds := [], alts := [], laidByText := true, laidKinds := [.data, .data, .data, .data, .sentinel, .sentinel, .pinned], laidTests := true, laidLooks := .later }
def AddrTextsUptoCardSaid : Prop := Claim7.holds Tryd.pinned (.plain (OpenSpec.upto addrTextsSpec)) addrTextsUptoCard

/-- THE SECOND FORM's CARD OF 'nomenclatorlaw05.AddrFours'. -/
def addrFoursUptoCard : Claim7 := { stood := { row := addrFoursUptoRow, standIns := [], harness := (true, "5ee556f1287a3536df7616f922218f4c835da4ab923470fab85d60497299e706"), looks := true }, kinds := [], alts := [], laidByText := true, laidKinds := [.data, .data, .data, .data, .sentinel, .sentinel, .pinned], laidTests := true, laidLooks := .later }
def AddrFoursUptoCardSaid : Prop := Claim7.holds Tryd.pinned (.plain (OpenSpec.upto addrFoursSpec)) addrFoursUptoCard

/-- THE SECOND FORM's CARD OF 'nomenclatorlaw05.AddrApart'. -/
def addrApartUptoCard : Claim7 := { stood := { row := addrApartUptoRow, standIns := [], harness := (true, "5ee556f1287a3536df7616f922218f4c835da4ab923470fab85d60497299e706"), looks := true }, kinds := [], alts := [], laidByText := true, laidKinds := [.data, .data, .data, .data, .sentinel, .sentinel, .pinned], laidTests := true, laidLooks := .later }
def AddrApartUptoCardSaid : Prop := Claim7.holds Tryd.pinned (.plain (OpenSpec.upto addrApartSpec)) addrApartUptoCard

/-- THE SECOND FORM's CARD OF 'nomenclatorlaw05.AddrNoughts'. -/
def addrNoughtsUptoCard : Claim7 := { stood := { row := addrNoughtsUptoRow, standIns := [], harness := (true, "5ee556f1287a3536df7616f922218f4c835da4ab923470fab85d60497299e706"), looks := true }, kinds := [], alts := [], laidByText := true, laidKinds := [.data, .data, .data, .data, .sentinel, .sentinel, .pinned], laidTests := true, laidLooks := .later }
def AddrNoughtsUptoCardSaid : Prop := Claim7.holds Tryd.pinned (.plain (OpenSpec.upto addrNoughtsSpec)) addrNoughtsUptoCard

/-- THE SECOND FORM's CARD OF 'nomenclatorlaw05.AddrShared'. -/
def addrSharedUptoCard : Claim7 := { stood := { row := addrSharedUptoRow, standIns := [], harness := (true, "5ee556f1287a3536df7616f922218f4c835da4ab923470fab85d60497299e706"), looks := true }, kinds := [], alts := [], laidByText := true, laidKinds := [.data, .data, .data, .data, .sentinel, .sentinel, .pinned], laidTests := true, laidLooks := .later }
def AddrSharedUptoCardSaid : Prop := Claim7.holds Tryd.pinned (.plain (OpenSpec.upto addrSharedSpec)) addrSharedUptoCard

/-- THE SECOND FORM's CARD OF 'nomenclatorlaw05.AddrBits'. -/
def addrBitsUptoCard : Claim7 := { stood := { row := addrBitsUptoRow, standIns := [], harness := (true, "5ee556f1287a3536df7616f922218f4c835da4ab923470fab85d60497299e706"), looks := true }, kinds := [], alts := [], laidByText := true, laidKinds := [.data, .data, .data, .data, .sentinel, .sentinel, .pinned], laidTests := true, laidLooks := .later }
def AddrBitsUptoCardSaid : Prop := Claim7.holds Tryd.pinned (.plain (OpenSpec.upto addrBitsSpec)) addrBitsUptoCard

/-- THE SECOND FORM's CARD OF 'nomenclatorlaw05.AddrReverses'. -/
def addrReversesUptoCard : Claim7 := { stood := { row := addrReversesUptoRow, standIns := [], harness := (true, "5ee556f1287a3536df7616f922218f4c835da4ab923470fab85d60497299e706"), looks := true }, kinds := [], alts := [], laidByText := true, laidKinds := [.data, .data, .data, .data, .sentinel, .sentinel, .pinned], laidTests := true, laidLooks := .later }
def AddrReversesUptoCardSaid : Prop := Claim7.holds Tryd.pinned (.plain (OpenSpec.upto addrReversesSpec)) addrReversesUptoCard
end Rows
end Go.Proofs.YtghmlhdlkgjbeaaDoor
