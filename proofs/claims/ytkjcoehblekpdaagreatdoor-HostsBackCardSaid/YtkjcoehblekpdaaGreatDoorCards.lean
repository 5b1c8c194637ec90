/-
  DERIVED. GIVEN WITH THE SEED: THE CARDS: each row of YtkjcoehblekpdaaGreatDoorRows.lean that lists a variable, with what it lists TIED to the program's text (the seventh form; the later family's looks); each row that meets fmt, with fmt's text TOLD by the authors' own Lean function (tested against real Go, not proved from fmt's source: count such statements apart). THE CARD IS WHAT COUNTS. Prove the row's statement (the work); the ties are given (YtkjcoehblekpdaaGreatDoorTie.lean); close each card by the builder's one call (the guide's Derived/Test/ToyasCard.lean, 'card_holds'). Laid BY PROGRAM, IN A SANDBOX (cutbox-door.mjs). By AI agents, Wed Nov 11 2026. No macro, syntax, notation, axiom, sorry.
-/
import Derived.Test.YtkjcoehblekpdaaGreatDoorRows
import GoSem.ClaimSeven
namespace Go.Proofs.YtkjcoehblekpdaaGreatDoor
namespace Rows

/-- THE TIED CARD OF 'nomenclatorlaw06.HostsLines'. -/
def hostsLinesCard : Claim7 := { stood := { row := hostsLinesRow, standIns := [], harness := (true, "27e17210a009ac6ed416ff6490bd2d87f312d1cdd7bed786d95a57d96ecd0ff5"), looks := true }, kinds := [], alts := [], laidByText := true, laidKinds := [.data, .data, .data, .data, .sentinel, .sentinel, .data, .data, .pinned, .pinned], laidTests := true, laidLooks := .later }
def HostsLinesCardSaid : Prop := Claim7.holds Tryz.pinned (.plain (OpenSpec.ofChange hostsLinesSpec)) hostsLinesCard

/-- THE TIED CARD OF 'nomenclatorlaw06.HostsMany'. -/
def hostsManyCard : Claim7 := { stood := { row := hostsManyRow, standIns := [], harness := (true, "27e17210a009ac6ed416ff6490bd2d87f312d1cdd7bed786d95a57d96ecd0ff5"), looks := true }, kinds := [], alts := [], laidByText := true, laidKinds := [.data, .data, .data, .data, .sentinel, .sentinel, .data, .data, .pinned, .pinned], laidTests := true, laidLooks := .later }
def HostsManyCardSaid : Prop := Claim7.holds Tryz.pinned (.plain (OpenSpec.ofChange hostsManySpec)) hostsManyCard

/-- THE TIED CARD OF 'nomenclatorlaw06.HostsReverses'. -/
def hostsReversesCard : Claim7 := { stood := { row := hostsReversesRow, standIns := [], harness := (true, "27e17210a009ac6ed416ff6490bd2d87f312d1cdd7bed786d95a57d96ecd0ff5"), looks := true }, kinds := [], alts := [], laidByText := true, laidKinds := [.data, .data, .data, .data, .sentinel, .sentinel, .data, .data, .pinned, .pinned], laidTests := true, laidLooks := .later }
def HostsReversesCardSaid : Prop := Claim7.holds Tryz.pinned (.plain (OpenSpec.ofChange hostsReversesSpec)) hostsReversesCard

/-- THE TIED CARD OF 'nomenclatorlaw06.HostsTypes'. -/
def hostsTypesCard : Claim7 := { stood := { row := hostsTypesRow, standIns := [], harness := (true, "27e17210a009ac6ed416ff6490bd2d87f312d1cdd7bed786d95a57d96ecd0ff5"), looks := true }, kinds := [], alts := [], laidByText := true, laidKinds := [.data, .data, .data, .data, .sentinel, .sentinel, .data, .data, .pinned, .pinned], laidTests := true, laidLooks := .later }
def HostsTypesCardSaid : Prop := Claim7.holds Tryz.pinned (.plain (OpenSpec.ofChange hostsTypesSpec)) hostsTypesCard

/-- THE TIED CARD OF 'nomenclatorlaw06.HostsWords'. -/
def hostsWordsCard : Claim7 := { stood := { row := hostsWordsRow, standIns := [], harness := (true, "27e17210a009ac6ed416ff6490bd2d87f312d1cdd7bed786d95a57d96ecd0ff5"), looks := true }, kinds := [], alts := [], laidByText := true, laidKinds := [.data, .data, .data, .data, .sentinel, .sentinel, .data, .data, .pinned, .pinned], laidTests := true, laidLooks := .later }
def HostsWordsCardSaid : Prop := Claim7.holds Tryz.pinned (.plain (OpenSpec.ofChange hostsWordsSpec)) hostsWordsCard

/-- THE TIED CARD OF 'nomenclatorlaw06.HostsBack'. -/
def hostsBackCard : Claim7 := { stood := { row := hostsBackRow, standIns := [], harness := (true, "27e17210a009ac6ed416ff6490bd2d87f312d1cdd7bed786d95a57d96ecd0ff5"), looks := true }, kinds := [], alts := [], laidByText := true, laidKinds := [.data, .data, .data, .data, .sentinel, .sentinel, .data, .data, .pinned, .pinned], laidTests := true, laidLooks := .later }
def HostsBackCardSaid : Prop := Claim7.holds Tryz.pinned (.plain (OpenSpec.ofChange hostsBackSpec)) hostsBackCard

/-- THE SECOND FORM's CARD OF 'nomenclatorlaw06.HostsLines'. -/
def hostsLinesUptoCard : Claim7 := { stood := { row := hostsLinesUptoRow, standIns := [], harness := (true, "27e17210a009ac6ed416ff6490bd2d87f312d1cdd7bed786d95a57d96ecd0ff5"), looks := true }, kinds := [], alts := [], laidByText := true, laidKinds := [.data, .data, .data, .data, .sentinel, .sentinel, .data, .data, .pinned, .pinned], laidTests := true, laidLooks := .later }
def HostsLinesUptoCardSaid : Prop := Claim7.holds Tryz.pinned (.plain (OpenSpec.upto hostsLinesSpec)) hostsLinesUptoCard

/-- THE SECOND FORM's CARD OF 'nomenclatorlaw06.HostsMany'. -/
def hostsManyUptoCard : Claim7 := { stood := { row := hostsManyUptoRow, standIns := [], harness := (true, "27e17210a009ac6ed416ff6490bd2d87f312d1cdd7bed786d95a57d96ecd0ff5"), looks := true }, kinds := [], alts := [], laidByText := true, laidKinds := [.data, .data, .data, .data, .sentinel, .sentinel, .data, .data, .pinned, .pinned], laidTests := true, laidLooks := .later }
def HostsManyUptoCardSaid : Prop := Claim7.holds Tryz.pinned (.plain (OpenSpec.upto hostsManySpec)) hostsManyUptoCard

/-- THE SECOND FORM's CARD OF 'nomenclatorlaw06.HostsReverses'. -/
def hostsReversesUptoCard : Claim7 := { stood := { row := hostsReversesUptoRow, standIns := [], harness := (true, "27e17210a009ac6ed416ff6490bd2d87f312d1cdd7bed786d95a57d96ecd0ff5"), looks := true }, kinds := [], alts := [], laidByText := true, laidKinds := [.data, .data, .data, .data, .sentinel, .sentinel, .data, .data, .pinned, .pinned], laidTests := true, laidLooks := .later }
def HostsReversesUptoCardSaid : Prop := Claim7.holds Tryz.pinned (.plain (OpenSpec.upto hostsReversesSpec)) hostsReversesUptoCard

/-- THE SECOND FORM's CARD OF 'nomenclatorlaw06.HostsTypes'. -/
def hostsTypesUptoCard : Claim7 := { stood := { row := hostsTypesUptoRow, standIns := [], harness := (true, "27e17210a009ac6ed416ff6490bd2d87f312d1cdd7bed786d95a57d96ecd0ff5"), looks := true }, kinds := [], alts := [], laidByText := true, laidKinds := [.data, .data, .data, .data, .sentinel, .sentinel, .data, .data, .pinned, .pinned], laidTests := true, laidLooks := .later }
def HostsTypesUptoCardSaid : Prop := Claim7.holds Tryz.pinned (.plain (OpenSpec.upto hostsTypesSpec)) hostsTypesUptoCard

/-- THE SECOND FORM's CARD OF 'nomenclatorlaw06.HostsWords'. -/
def hostsWordsUptoCard : Claim7 := { stood := { row := hostsWordsUptoRow, standIns := [], harness := (true, "27e17210a009ac6ed416ff6490bd2d87f312d1cdd7bed786d95a57d96ecd0ff5"), looks := true }, kinds := [], alts := [], laidByText := true, laidKinds := [.data, .data, .data, .data, .sentinel, .sentinel, .data, .data, .pinned, .pinned], laidTests := true, laidLooks := .later }
def HostsWordsUptoCardSaid : Prop := Claim7.holds Tryz.pinned (.plain (OpenSpec.upto hostsWordsSpec)) hostsWordsUptoCard

/-- THE SECOND FORM's CARD OF 'nomenclatorlaw06.HostsBack'. -/
def hostsBackUptoCard : Claim7 := { stood := { row := hostsBackUptoRow, standIns := [], harness := (true, "27e17210a009ac6ed416ff6490bd2d87f312d1cdd7bed786d95a57d96ecd0ff5"), looks := true }, kinds := [], alts := [], laidByText := true, laidKinds := [.data, .data, .data, .data, .sentinel, .sentinel, .data, .data, .pinned, .pinned], laidTests := true, laidLooks := .later }
def HostsBackUptoCardSaid : Prop := Claim7.holds Tryz.pinned (.plain (OpenSpec.upto hostsBackSpec)) hostsBackUptoCard
end Rows
end Go.Proofs.YtkjcoehblekpdaaGreatDoor
