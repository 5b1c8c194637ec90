/-
  DERIVED. GIVEN WITH THE SEED: THE CARDS: each row of YtedmgnhbfpjceaaDoorRows.lean that lists a variable, with what it lists TIED to the program's text (the seventh form; the later family's looks); each row that meets fmt, with fmt's text TOLD by the authors' own Lean function (tested against real Go, not proved from fmt's source: count such statements apart). THE CARD IS WHAT COUNTS. Prove the row's statement (the work); the ties are given (YtedmgnhbfpjceaaDoorTie.lean); close each card by the builder's one call (the guide's Derived/Test/ToyasCard.lean, 'card_holds'). Laid BY PROGRAM, IN A SANDBOX (cutbox-door.mjs). By AI agents, Wed Nov 11 2026. No macro, syntax, notation, axiom, sorry.
-/
import Derived.Test.YtedmgnhbfpjceaaDoorRows
import GoSem.ClaimSeven
namespace Go.Proofs.YtedmgnhbfpjceaaDoor
namespace Rows

/-- THE TIED CARD OF 'nomenclatorlaw03.NameBack'. -/
def nameBackCard : Claim7 := { stood := { row := nameBackRow, standIns := [], harness := (true, "02bd2f145298176e561f37f67b381bfd9656e7e25bfff681e0de3ccde7819855"), looks := false }, kinds := [], alts := [], laidByText := true, laidKinds := [.data, .data, .data, .pinned, .pinned], laidTests := true, laidLooks := .later }
def NameBackCardSaid : Prop := Claim7.holds Tryd.pinned (.plain (OpenSpec.ofChange nameBackSpec)) nameBackCard

/-- THE TIED CARD OF 'nomenclatorlaw03.NamePlain'. -/
def namePlainCard : Claim7 := { stood := { row := namePlainRow, standIns := [], harness := (true, "02bd2f145298176e561f37f67b381bfd9656e7e25bfff681e0de3ccde7819855"), looks := false }, kinds := [], alts := [], laidByText := true, laidKinds := [.data, .data, .data, .pinned, .pinned], laidTests := true, laidLooks := .later }
def NamePlainCardSaid : Prop := Claim7.holds Tryd.pinned (.plain (OpenSpec.ofChange namePlainSpec)) namePlainCard

/-- THE TIED CARD OF 'nomenclatorlaw03.NameRunes'. -/
def nameRunesCard : Claim7 := { stood := { row := nameRunesRow, standIns := [], harness := (true, "02bd2f145298176e561f37f67b381bfd9656e7e25bfff681e0de3ccde7819855"), looks := false }, kinds := [], alts := [], laidByText := true, laidKinds := [.data, .data, .data, .pinned, .pinned], laidTests := true, laidLooks := .later }
def NameRunesCardSaid : Prop := Claim7.holds Tryd.pinned (.plain (OpenSpec.ofChange nameRunesSpec)) nameRunesCard

/-- THE TIED CARD OF 'nomenclatorlaw03.NameCapitals'. -/
def nameCapitalsCard : Claim7 := { stood := { row := nameCapitalsRow, standIns := [], harness := (true, "02bd2f145298176e561f37f67b381bfd9656e7e25bfff681e0de3ccde7819855"), looks := false }, kinds := [], alts := [], laidByText := true, laidKinds := [.data, .data, .data, .pinned, .pinned], laidTests := true, laidLooks := .later }
def NameCapitalsCardSaid : Prop := Claim7.holds Tryd.pinned (.plain (OpenSpec.ofChange nameCapitalsSpec)) nameCapitalsCard

/-- THE TIED CARD OF 'nomenclatorlaw03.NameParts'. -/
def namePartsCard : Claim7 := { stood := { row := namePartsRow, standIns := [], harness := (true, "02bd2f145298176e561f37f67b381bfd9656e7e25bfff681e0de3ccde7819855"), looks := false }, kinds := [], alts := [], laidByText := true, laidKinds := [.data, .data, .data, .pinned, .pinned], laidTests := true, laidLooks := .later }
def NamePartsCardSaid : Prop := Claim7.holds Tryd.pinned (.plain (OpenSpec.ofChange namePartsSpec)) namePartsCard

/-- THE TIED CARD OF 'nomenclatorlaw03.NameReads'. -/
def nameReadsCard : Claim7 := { stood := { row := nameReadsRow, standIns := [], harness := (true, "02bd2f145298176e561f37f67b381bfd9656e7e25bfff681e0de3ccde7819855"), looks := false }, kinds := [], alts := [], laidByText := true, laidKinds := [.data, .data, .data, .pinned, .pinned], laidTests := true, laidLooks := .later }
def NameReadsCardSaid : Prop := Claim7.holds Tryd.pinned (.plain (OpenSpec.ofChange nameReadsSpec)) nameReadsCard

/-- THE TIED CARD OF 'nomenclatorlaw03.NameLong'. -/
def nameLongCard : Claim7 := { stood := { row := nameLongRow, standIns := [], harness := (true, "02bd2f145298176e561f37f67b381bfd9656e7e25bfff681e0de3ccde7819855"), looks := false }, kinds := [], alts := [], laidByText := true, laidKinds := [.data, .data, .data, .pinned, .pinned], laidTests := true, laidLooks := .later }
def NameLongCardSaid : Prop := Claim7.holds Tryd.pinned (.plain (OpenSpec.ofChange nameLongSpec)) nameLongCard

/-- THE TIED CARD OF 'nomenclatorlaw03.NameRight'. -/
def nameRightCard : Claim7 := { stood := { row := nameRightRow, standIns := [], harness := (true, "02bd2f145298176e561f37f67b381bfd9656e7e25bfff681e0de3ccde7819855"), looks := false }, kinds := [], alts := [], laidByText := true, laidKinds := [.data, .data, .data, .pinned, .pinned], laidTests := true, laidLooks := .later }
def NameRightCardSaid : Prop := Claim7.holds Tryd.pinned (.plain (OpenSpec.ofChange nameRightSpec)) nameRightCard

/-- THE SECOND FORM's CARD OF 'nomenclatorlaw03.NameBack'. -/
def nameBackUptoCard : Claim7 := { stood := { row := nameBackUptoRow, standIns := [], harness := (true, "02bd2f145298176e561f37f67b381bfd9656e7e25bfff681e0de3ccde7819855"), looks := false }, kinds := [], alts := [], laidByText := true, laidKinds := [.data, .data, .data, .pinned, .pinned], laidTests := true, laidLooks := .later }
def NameBackUptoCardSaid : Prop := Claim7.holds Tryd.pinned (.plain (OpenSpec.upto nameBackSpec)) nameBackUptoCard

/-- THE SECOND FORM's CARD OF 'nomenclatorlaw03.NamePlain'. -/
def namePlainUptoCard : Claim7 := { stood := { row := namePlainUptoRow, standIns := [], harness := (true, "02bd2f145298176e561f37f67b381bfd9656e7e25bfff681e0de3ccde7819855"), looks := false }, kinds := [], alts := [], laidByText := true, laidKinds := [.data, .data, .data, .pinned, .pinned], laidTests := true, laidLooks := .later }
def NamePlainUptoCardSaid : Prop := Claim7.holds Tryd.pinned (.plain (OpenSpec.upto namePlainSpec)) namePlainUptoCard

/-- THE SECOND FORM's CARD OF 'nomenclatorlaw03.NameRunes'. -/
def nameRunesUptoCard : Claim7 := { stood := { row := nameRunesUptoRow, standIns := [], harness := (true, "02bd2f145298176e561f37f67b381bfd9656e7e25bfff681e0de3ccde7819855"), looks := false }, kinds := [], alts := [], laidByText := true, laidKinds := [.data, .data, .data, .pinned, .pinned], laidTests := true, laidLooks := .later }
def NameRunesUptoCardSaid : Prop := Claim7.holds Tryd.pinned (.plain (OpenSpec.upto nameRunesSpec)) nameRunesUptoCard

/-- THE SECOND FORM's CARD OF 'nomenclatorlaw03.NameCapitals'. -/
def nameCapitalsUptoCard : Claim7 := { stood := { row := nameCapitalsUptoRow, standIns := [], harness := (true, "02bd2f145298176e561f37f67b381bfd9656e7e25bfff681e0de3ccde7819855"), looks := false }, kinds := [], alts := [], laidByText := true, laidKinds := [.data, .data, .data, .pinned, .pinned], laidTests := true, laidLooks := .later }
def NameCapitalsUptoCardSaid : Prop := Claim7.holds Tryd.pinned (.plain (OpenSpec.upto nameCapitalsSpec)) nameCapitalsUptoCard

/-- THE SECOND FORM's CARD OF 'nomenclatorlaw03.NameParts'. -/
def namePartsUptoCard : Claim7 := { stood := { row := namePartsUptoRow, standIns := [], harness := (true, "02bd2f145298176e561f37f67b381bfd9656e7e25bfff681e0de3ccde7819855"), looks := false }, kinds := [], alts := [], laidByText := true, laidKinds := [.data, .data, .data, .pinned, .pinned], laidTests := true, laidLooks := .later }
def NamePartsUptoCardSaid : Prop := Claim7.holds Tryd.pinned (.plain (OpenSpec.upto namePartsSpec)) namePartsUptoCard

/-- THE SECOND FORM's CARD OF 'nomenclatorlaw03.NameReads'. -/
def nameReadsUptoCard : Claim7 := { stood := { row := nameReadsUptoRow, standIns := [], harness := (true, "02bd2f145298176e561f37f67b381bfd9656e7e25bfff681e0de3ccde7819855"), looks := false }, kinds := [], alts := [], laidByText := true, laidKinds := [.data, .data, .data, .pinned, .pinned], laidTests := true, laidLooks := .later }
def NameReadsUptoCardSaid : Prop := Claim7.holds Tryd.pinned (.plain (OpenSpec.upto nameReadsSpec)) nameReadsUptoCard

/-- THE SECOND FORM's CARD OF 'nomenclatorlaw03.NameLong'. -/
def nameLongUptoCard : Claim7 := { stood := { row := nameLongUptoRow, standIns := [], harness := (true, "02bd2f145298176e561f37f67b381bfd9656e7e25bfff681e0de3ccde7819855"), looks := false }, kinds := [], alts := [], laidByText := true, laidKinds := [.data, .data, .data, .pinned, .pinned], laidTests := true, laidLooks := .later }
def NameLongUptoCardSaid : Prop := Claim7.holds Tryd.pinned (.plain (OpenSpec.upto nameLongSpec)) nameLongUptoCard

/-- THE SECOND FORM's CARD OF 'nomenclatorlaw03.NameRight'. -/
def nameRightUptoCard : Claim7 := { stood := { row := nameRightUptoRow, standIns := [], harness := (true, "02bd2f145298176e561f37f67b381bfd9656e7e25bfff681e0de3ccde7819855"), looks := false }, kinds := [], alts := [], laidByText := true, laidKinds := [.data, .data, .data, .pinned, .pinned], laidTests := true, laidLooks := .later }
def NameRightUptoCardSaid : Prop := Claim7.holds Tryd.pinned (.plain (OpenSpec.upto nameRightSpec)) nameRightUptoCard
end Rows
end Go.Proofs.YtedmgnhbfpjceaaDoor
