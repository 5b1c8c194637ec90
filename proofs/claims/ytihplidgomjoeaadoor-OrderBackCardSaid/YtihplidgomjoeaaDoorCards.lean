/-
  DERIVED. GIVEN WITH THE SEED: THE CARDS: each row of YtihplidgomjoeaaDoorRows.lean that lists a variable, with what it lists TIED to the program's text (the seventh form; the later family's looks); each row that meets fmt, with fmt's text TOLD by the authors' own Lean function (tested against real Go, not proved from fmt's source: count such statements apart). THE CARD IS WHAT COUNTS. Prove the row's statement (the work); the ties are given (YtihplidgomjoeaaDoorTie.lean); close each card by the builder's one call (the guide's Derived/Test/ToyasCard.lean, 'card_holds'). Laid BY PROGRAM, IN A SANDBOX (cutbox-door.mjs). By AI agents, Wed Nov 11 2026. No macro, syntax, notation, axiom, sorry.
-/
import Derived.Test.YtihplidgomjoeaaDoorRows
import GoSem.ClaimSeven
namespace Go.Proofs.YtihplidgomjoeaaDoor
namespace Rows

/-- THE TIED CARD OF 'nomenclatorlaw08.OrderActions'. -/
def orderActionsCard : Claim7 := { stood := { row := orderActionsRow, standIns := [], harness := (true, "06f2b64ce0f69686e799f46147cf21a54309f19921ec1a1aeed848f5fc1a57ba"), looks := false }, kinds := [], alts := [], laidByText := true, laidKinds := [.data, .widerDeep, .widerDeep, .pinned], laidTests := true, laidLooks := .later }
def OrderActionsCardSaid : Prop := Claim7.holds Tryd.pinned (.plain (OpenSpec.ofChange orderActionsSpec)) orderActionsCard

/-- THE TIED CARD OF 'nomenclatorlaw08.OrderPlain'. -/
def orderPlainCard : Claim7 := { stood := { row := orderPlainRow, standIns := [], harness := (true, "06f2b64ce0f69686e799f46147cf21a54309f19921ec1a1aeed848f5fc1a57ba"), looks := false }, kinds := [], alts := [], laidByText := true, laidKinds := [.data, .widerDeep, .widerDeep, .pinned], laidTests := true, laidLooks := .later }
def OrderPlainCardSaid : Prop := Claim7.holds Tryd.pinned (.plain (OpenSpec.ofChange orderPlainSpec)) orderPlainCard

/-- THE TIED CARD OF 'nomenclatorlaw08.OrderBrackets'. -/
def orderBracketsCard : Claim7 := { stood := { row := orderBracketsRow, standIns := [], harness := (true, "06f2b64ce0f69686e799f46147cf21a54309f19921ec1a1aeed848f5fc1a57ba"), looks := false }, kinds := [], alts := [], laidByText := true, laidKinds := [.data, .widerDeep, .widerDeep, .pinned], laidTests := true, laidLooks := .later }
def OrderBracketsCardSaid : Prop := Claim7.holds Tryd.pinned (.plain (OpenSpec.ofChange orderBracketsSpec)) orderBracketsCard

/-- THE TIED CARD OF 'nomenclatorlaw08.OrderSpaces'. -/
def orderSpacesCard : Claim7 := { stood := { row := orderSpacesRow, standIns := [], harness := (true, "06f2b64ce0f69686e799f46147cf21a54309f19921ec1a1aeed848f5fc1a57ba"), looks := false }, kinds := [], alts := [], laidByText := true, laidKinds := [.data, .widerDeep, .widerDeep, .pinned], laidTests := true, laidLooks := .later }
def OrderSpacesCardSaid : Prop := Claim7.holds Tryd.pinned (.plain (OpenSpec.ofChange orderSpacesSpec)) orderSpacesCard

/-- THE TIED CARD OF 'nomenclatorlaw08.OrderBack'. -/
def orderBackCard : Claim7 := { stood := { row := orderBackRow, standIns := [], harness := (true, "06f2b64ce0f69686e799f46147cf21a54309f19921ec1a1aeed848f5fc1a57ba"), looks := false }, kinds := [], alts := [], laidByText := true, laidKinds := [.data, .widerDeep, .widerDeep, .pinned], laidTests := true, laidLooks := .later }
def OrderBackCardSaid : Prop := Claim7.holds Tryd.pinned (.plain (OpenSpec.ofChange orderBackSpec)) orderBackCard

/-- THE TIED CARD OF 'nomenclatorlaw08.OrderMany'. -/
def orderManyCard : Claim7 := { stood := { row := orderManyRow, standIns := [], harness := (true, "06f2b64ce0f69686e799f46147cf21a54309f19921ec1a1aeed848f5fc1a57ba"), looks := false }, kinds := [], alts := [], laidByText := true, laidKinds := [.data, .widerDeep, .widerDeep, .pinned], laidTests := true, laidLooks := .later }
def OrderManyCardSaid : Prop := Claim7.holds Tryd.pinned (.plain (OpenSpec.ofChange orderManySpec)) orderManyCard

/-- THE SECOND FORM's CARD OF 'nomenclatorlaw08.OrderActions'. -/
def orderActionsUptoCard : Claim7 := { stood := { row := orderActionsUptoRow, standIns := [], harness := (true, "06f2b64ce0f69686e799f46147cf21a54309f19921ec1a1aeed848f5fc1a57ba"), looks := false }, kinds := [], alts := [], laidByText := true, laidKinds := [.data, .widerDeep, .widerDeep, .pinned], laidTests := true, laidLooks := .later }
def OrderActionsUptoCardSaid : Prop := Claim7.holds Tryd.pinned (.plain (OpenSpec.upto orderActionsSpec)) orderActionsUptoCard

/-- THE SECOND FORM's CARD OF 'nomenclatorlaw08.OrderPlain'. -/
def orderPlainUptoCard : Claim7 := { stood := { row := orderPlainUptoRow, standIns := [], harness := (true, "06f2b64ce0f69686e799f46147cf21a54309f19921ec1a1aeed848f5fc1a57ba"), looks := false }, kinds := [], alts := [], laidByText := true, laidKinds := [.data, .widerDeep, .widerDeep, .pinned], laidTests := true, laidLooks := .later }
def OrderPlainUptoCardSaid : Prop := Claim7.holds Tryd.pinned (.plain (OpenSpec.upto orderPlainSpec)) orderPlainUptoCard

/-- THE SECOND FORM's CARD OF 'nomenclatorlaw08.OrderBrackets'. -/
def orderBracketsUptoCard : Claim7 := { stood := { row := orderBracketsUptoRow, standIns := [], harness := (true, "06f2b64ce0f69686e799f46147cf21a54309f19921ec1a1aeed848f5fc1a57ba"), looks := false }, kinds := [], alts := [], laidByText := true, laidKinds := [.data, .widerDeep, .widerDeep, .pinned], laidTests := true, laidLooks := .later }
def OrderBracketsUptoCardSaid : Prop := Claim7.holds Tryd.pinned (.plain (OpenSpec.upto orderBracketsSpec)) orderBracketsUptoCard

/-- THE SECOND FORM's CARD OF 'nomenclatorlaw08.OrderSpaces'. -/
def orderSpacesUptoCard : Claim7 := { stood := { row := orderSpacesUptoRow, standIns := [], harness := (true, "06f2b64ce0f69686e799f46147cf21a54309f19921ec1a1aeed848f5fc1a57ba"), looks := false }, kinds := [], alts := [], laidByText := true, laidKinds := [.data, .widerDeep, .widerDeep, .pinned], laidTests := true, laidLooks := .later }
def OrderSpacesUptoCardSaid : Prop := Claim7.holds Tryd.pinned (.plain (OpenSpec.upto orderSpacesSpec)) orderSpacesUptoCard

/-- THE SECOND FORM's CARD OF 'nomenclatorlaw08.OrderBack'. -/
def orderBackUptoCard : Claim7 := { stood := { row := orderBackUptoRow, standIns := [], harness := (true, "06f2b64ce0f69686e799f46147cf21a54309f19921ec1a1aeed848f5fc1a57ba"), looks := false }, kinds := [], alts := [], laidByText := true, laidKinds := [.data, .widerDeep, .widerDeep, .pinned], laidTests := true, laidLooks := .later }
def OrderBackUptoCardSaid : Prop := Claim7.holds Tryd.pinned (.plain (OpenSpec.upto orderBackSpec)) orderBackUptoCard

/-- THE SECOND FORM's CARD OF 'nomenclatorlaw08.OrderMany'. -/
def orderManyUptoCard : Claim7 := { stood := { row := orderManyUptoRow, standIns := [], harness := (true, "06f2b64ce0f69686e799f46147cf21a54309f19921ec1a1aeed848f5fc1a57ba"), looks := false }, kinds := [], alts := [], laidByText := true, laidKinds := [.data, .widerDeep, .widerDeep, .pinned], laidTests := true, laidLooks := .later }
def OrderManyUptoCardSaid : Prop := Claim7.holds Tryd.pinned (.plain (OpenSpec.upto orderManySpec)) orderManyUptoCard
end Rows
end Go.Proofs.YtihplidgomjoeaaDoor
