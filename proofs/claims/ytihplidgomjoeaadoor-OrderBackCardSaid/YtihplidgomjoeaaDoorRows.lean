/-
  NARROWER THAN 'FOR EVERY INPUT', by the rows' own cells (each row's printed sentence says how): OrderActions: laid · OrderPlain: laid · OrderBrackets: laid · OrderSpaces: laid · OrderBack: laid · OrderMany: laid.
  DERIVED. THE GIVEN ROWS OF THIS SEAT. 6 by the template 'for every input the law returns true; each argument reads behind the call as it read before'; 0 by the template 'total and deterministic' (their statements: YtihplidgomjoeaaDoorTotals.lean).
  GIVEN WITH THE SEED: the statements are not yours to turn. If you find one false, say at which input.
  Laid BY PROGRAM, IN A SANDBOX (cutbox-rows.mjs): the forced cells as the released guide's own fill.sh prints them over the translation c6efc085313040cb… (all of the seat's roots in one cut). By AI agents, Wed Nov 11 2026. No macro, syntax, notation, axiom, sorry.
-/
import Derived.Test.YtihplidgomjoeaaDoorChecked
import GoSem.PinnedTables
import GoSem.Claim
import GoSem.ClaimJoined
import GoSem.ClaimMapViews
import Derived.JoinedTies
import Derived.KernelRfl
namespace Go.Proofs.YtihplidgomjoeaaDoor
/- THE CELL 'sum', in the pinned program and in every row, IS THE sha256 OF THE DUMP (.gsa) THAT YtihplidgomjoeaaDoorProg.lean LOADS. Nothing in Lean hashes anything: it is a label: what it is worth is what the hold of that sum in a sandbox is worth. -/
noncomputable def Tryd.pinned : Pinned := { name := "ytihplidgomjoeaadoor", sum := "c6efc085313040cb0a64fb12878af91a98a11ed8b44a41186796cf29f80e2961", checked := Tryd.checked }
namespace Rows
def none {H : Type} : Left H := { results := [], args := [] }

/- WHAT THE LISTED PACKAGE-LEVEL VARIABLES READ AS WHEN THE CALL BEGINS. Each datum BY PROGRAM (the guide's laid-datum.mjs) off the statement by which the dump's own 'gosem.cut.vars' lays the variable. In a bare row this is a premise. The card (YtihplidgomjoeaaDoorCards.lean) ties it to the program's text. -/
def laid_unicode_utf8_acceptRanges {H : Type} : DataW H := .agg [.agg [.lit (.int .u8 128), .lit (.int .u8 191)], .agg [.lit (.int .u8 160), .lit (.int .u8 191)], .agg [.lit (.int .u8 128), .lit (.int .u8 159)], .agg [.lit (.int .u8 144), .lit (.int .u8 191)], .agg [.lit (.int .u8 128), .lit (.int .u8 143)], .agg [.lit (.int .u8 0), .lit (.int .u8 0)], .agg [.lit (.int .u8 0), .lit (.int .u8 0)], .agg [.lit (.int .u8 0), .lit (.int .u8 0)], .agg [.lit (.int .u8 0), .lit (.int .u8 0)], .agg [.lit (.int .u8 0), .lit (.int .u8 0)], .agg [.lit (.int .u8 0), .lit (.int .u8 0)], .agg [.lit (.int .u8 0), .lit (.int .u8 0)], .agg [.lit (.int .u8 0), .lit (.int .u8 0)], .agg [.lit (.int .u8 0), .lit (.int .u8 0)], .agg [.lit (.int .u8 0), .lit (.int .u8 0)], .agg [.lit (.int .u8 0), .lit (.int .u8 0)]]
def laid_nomenclator_order_kinds {H : Type} : DataW H := .agg [.lit (.string [102, 105, 108, 101, 115]), .lit (.string [100, 110, 115]), .lit (.string [108, 108, 109, 110, 114])]
def laid_nomenclator_order_outcomes {H : Type} : DataW H := .agg [.lit (.string [83, 85, 67, 67, 69, 83, 83]), .lit (.string [78, 79, 84, 70, 79, 85, 78, 68]), .lit (.string [85, 78, 65, 86, 65, 73, 76]), .lit (.string [84, 82, 89, 65, 71, 65, 73, 78])]
/-- One of Go's own tables, pinned by name: the form's constant. -/
def laid_unicode_utf8_first : DataW Unit := Go.Pinned.utf8First

/-- 'nomenclatorlaw08.OrderActions': WHATEVER THE INPUT: true; the input reads as it did. -/
def orderActionsSpec : ChangeSpec := { name := "orderActions", fn := fun _ => fun
  | [d1, d2] => { results := [.lit (.bool true)], args := [d1, d2] }
  | _ => none }
def orderActionsRow : OpenClaim := { program := "ytihplidgomjoeaadoor", sum := "c6efc085313040cb0a64fb12878af91a98a11ed8b44a41186796cf29f80e2961", func := "nomenclator/nomenclatorlaw08.OrderActions", spec := "orderActions", inPlace := ["internal/bytealg.CountString", "internal/bytealg.IndexByteString", "internal/bytealg.IndexString", "internal/abi.NoEscape", "internal/bytealg.MakeNoZero"], named := ["nomenclator/order.kinds", "internal/bytealg.MaxLen", "unicode/utf8.first", "unicode/utf8.acceptRanges", "nomenclator/order.outcomes"], apart := false, laid := [("unicode/utf8.acceptRanges", laid_unicode_utf8_acceptRanges), ("nomenclator/order.kinds", laid_nomenclator_order_kinds), ("nomenclator/order.outcomes", laid_nomenclator_order_outcomes), ("unicode/utf8.first", laid_unicode_utf8_first)] }
def OrderActionsSaid : Prop := orderActionsRow.holds Tryd.pinned (OpenSpec.ofChange orderActionsSpec)

/-- ITS FALSE NEIGHBOUR: 'it returns false'. Refute it at one input. -/
def orderActionsWrong : ChangeSpec := { name := "orderActions", fn := fun _ => fun
  | [d1, d2] => { results := [.lit (.bool false)], args := [d1, d2] }
  | _ => none }
def OrderActionsWrongFalsely : Prop := orderActionsRow.holds Tryd.pinned (OpenSpec.ofChange orderActionsWrong)

/-- 'nomenclatorlaw08.OrderPlain': WHATEVER THE INPUT: true; the input reads as it did. -/
def orderPlainSpec : ChangeSpec := { name := "orderPlain", fn := fun _ => fun
  | [d] => { results := [.lit (.bool true)], args := [d] }
  | _ => none }
def orderPlainRow : OpenClaim := { program := "ytihplidgomjoeaadoor", sum := "c6efc085313040cb0a64fb12878af91a98a11ed8b44a41186796cf29f80e2961", func := "nomenclator/nomenclatorlaw08.OrderPlain", spec := "orderPlain", inPlace := ["internal/bytealg.CountString", "internal/bytealg.IndexByteString", "internal/bytealg.IndexString", "internal/abi.NoEscape", "internal/bytealg.MakeNoZero"], named := ["nomenclator/order.kinds", "internal/bytealg.MaxLen", "unicode/utf8.first", "unicode/utf8.acceptRanges", "nomenclator/order.outcomes"], apart := false, laid := [("unicode/utf8.acceptRanges", laid_unicode_utf8_acceptRanges), ("nomenclator/order.kinds", laid_nomenclator_order_kinds), ("nomenclator/order.outcomes", laid_nomenclator_order_outcomes), ("unicode/utf8.first", laid_unicode_utf8_first)] }
def OrderPlainSaid : Prop := orderPlainRow.holds Tryd.pinned (OpenSpec.ofChange orderPlainSpec)

/-- ITS FALSE NEIGHBOUR: 'it returns false'. Refute it at one input. -/
def orderPlainWrong : ChangeSpec := { name := "orderPlain", fn := fun _ => fun
  | [d] => { results := [.lit (.bool false)], args := [d] }
  | _ => none }
def OrderPlainWrongFalsely : Prop := orderPlainRow.holds Tryd.pinned (OpenSpec.ofChange orderPlainWrong)

/-- 'nomenclatorlaw08.OrderBrackets': WHATEVER THE INPUT: true; the input reads as it did. -/
def orderBracketsSpec : ChangeSpec := { name := "orderBrackets", fn := fun _ => fun
  | [d] => { results := [.lit (.bool true)], args := [d] }
  | _ => none }
def orderBracketsRow : OpenClaim := { program := "ytihplidgomjoeaadoor", sum := "c6efc085313040cb0a64fb12878af91a98a11ed8b44a41186796cf29f80e2961", func := "nomenclator/nomenclatorlaw08.OrderBrackets", spec := "orderBrackets", inPlace := ["internal/bytealg.CountString", "internal/bytealg.IndexByteString", "internal/bytealg.IndexString", "internal/abi.NoEscape", "internal/bytealg.MakeNoZero"], named := ["nomenclator/order.kinds", "internal/bytealg.MaxLen", "unicode/utf8.first", "unicode/utf8.acceptRanges", "nomenclator/order.outcomes"], apart := false, laid := [("unicode/utf8.acceptRanges", laid_unicode_utf8_acceptRanges), ("nomenclator/order.kinds", laid_nomenclator_order_kinds), ("nomenclator/order.outcomes", laid_nomenclator_order_outcomes), ("unicode/utf8.first", laid_unicode_utf8_first)] }
def OrderBracketsSaid : Prop := orderBracketsRow.holds Tryd.pinned (OpenSpec.ofChange orderBracketsSpec)

/-- ITS FALSE NEIGHBOUR: 'it returns false'. Refute it at one input. -/
def orderBracketsWrong : ChangeSpec := { name := "orderBrackets", fn := fun _ => fun
  | [d] => { results := [.lit (.bool false)], args := [d] }
  | _ => none }
def OrderBracketsWrongFalsely : Prop := orderBracketsRow.holds Tryd.pinned (OpenSpec.ofChange orderBracketsWrong)

/-- 'nomenclatorlaw08.OrderSpaces': WHATEVER THE INPUT: true; the input reads as it did. -/
def orderSpacesSpec : ChangeSpec := { name := "orderSpaces", fn := fun _ => fun
  | [d] => { results := [.lit (.bool true)], args := [d] }
  | _ => none }
def orderSpacesRow : OpenClaim := { program := "ytihplidgomjoeaadoor", sum := "c6efc085313040cb0a64fb12878af91a98a11ed8b44a41186796cf29f80e2961", func := "nomenclator/nomenclatorlaw08.OrderSpaces", spec := "orderSpaces", inPlace := ["internal/bytealg.CountString", "internal/bytealg.IndexByteString", "internal/bytealg.IndexString", "internal/abi.NoEscape", "internal/bytealg.MakeNoZero"], named := ["nomenclator/order.kinds", "internal/bytealg.MaxLen", "unicode/utf8.first", "unicode/utf8.acceptRanges", "nomenclator/order.outcomes"], apart := false, laid := [("unicode/utf8.acceptRanges", laid_unicode_utf8_acceptRanges), ("nomenclator/order.kinds", laid_nomenclator_order_kinds), ("nomenclator/order.outcomes", laid_nomenclator_order_outcomes), ("unicode/utf8.first", laid_unicode_utf8_first)] }
def OrderSpacesSaid : Prop := orderSpacesRow.holds Tryd.pinned (OpenSpec.ofChange orderSpacesSpec)

/-- ITS FALSE NEIGHBOUR: 'it returns false'. Refute it at one input. -/
def orderSpacesWrong : ChangeSpec := { name := "orderSpaces", fn := fun _ => fun
  | [d] => { results := [.lit (.bool false)], args := [d] }
  | _ => none }
def OrderSpacesWrongFalsely : Prop := orderSpacesRow.holds Tryd.pinned (OpenSpec.ofChange orderSpacesWrong)

/-- 'nomenclatorlaw08.OrderBack': WHATEVER THE INPUT: true; the input reads as it did. -/
def orderBackSpec : ChangeSpec := { name := "orderBack", fn := fun _ => fun
  | [d] => { results := [.lit (.bool true)], args := [d] }
  | _ => none }
def orderBackRow : OpenClaim := { program := "ytihplidgomjoeaadoor", sum := "c6efc085313040cb0a64fb12878af91a98a11ed8b44a41186796cf29f80e2961", func := "nomenclator/nomenclatorlaw08.OrderBack", spec := "orderBack", inPlace := ["internal/bytealg.CountString", "internal/bytealg.IndexByteString", "internal/bytealg.IndexString", "internal/abi.NoEscape", "internal/bytealg.MakeNoZero"], named := ["nomenclator/order.kinds", "internal/bytealg.MaxLen", "unicode/utf8.first", "unicode/utf8.acceptRanges", "nomenclator/order.outcomes"], apart := false, laid := [("unicode/utf8.acceptRanges", laid_unicode_utf8_acceptRanges), ("nomenclator/order.kinds", laid_nomenclator_order_kinds), ("nomenclator/order.outcomes", laid_nomenclator_order_outcomes), ("unicode/utf8.first", laid_unicode_utf8_first)] }
def OrderBackSaid : Prop := orderBackRow.holds Tryd.pinned (OpenSpec.ofChange orderBackSpec)

/-- ITS FALSE NEIGHBOUR: 'it returns false'. Refute it at one input. -/
def orderBackWrong : ChangeSpec := { name := "orderBack", fn := fun _ => fun
  | [d] => { results := [.lit (.bool false)], args := [d] }
  | _ => none }
def OrderBackWrongFalsely : Prop := orderBackRow.holds Tryd.pinned (OpenSpec.ofChange orderBackWrong)

/-- 'nomenclatorlaw08.OrderMany': WHATEVER THE INPUT: true; the input reads as it did. -/
def orderManySpec : ChangeSpec := { name := "orderMany", fn := fun _ => fun
  | [d1, d2] => { results := [.lit (.bool true)], args := [d1, d2] }
  | _ => none }
def orderManyRow : OpenClaim := { program := "ytihplidgomjoeaadoor", sum := "c6efc085313040cb0a64fb12878af91a98a11ed8b44a41186796cf29f80e2961", func := "nomenclator/nomenclatorlaw08.OrderMany", spec := "orderMany", inPlace := ["internal/bytealg.CountString", "internal/bytealg.IndexByteString", "internal/bytealg.IndexString", "internal/abi.NoEscape", "internal/bytealg.MakeNoZero"], named := ["nomenclator/order.kinds", "internal/bytealg.MaxLen", "unicode/utf8.first", "unicode/utf8.acceptRanges", "nomenclator/order.outcomes"], apart := false, laid := [("unicode/utf8.acceptRanges", laid_unicode_utf8_acceptRanges), ("nomenclator/order.kinds", laid_nomenclator_order_kinds), ("nomenclator/order.outcomes", laid_nomenclator_order_outcomes), ("unicode/utf8.first", laid_unicode_utf8_first)] }
def OrderManySaid : Prop := orderManyRow.holds Tryd.pinned (OpenSpec.ofChange orderManySpec)

/-- ITS FALSE NEIGHBOUR: 'it returns false'. Refute it at one input. -/
def orderManyWrong : ChangeSpec := { name := "orderMany", fn := fun _ => fun
  | [d1, d2] => { results := [.lit (.bool false)], args := [d1, d2] }
  | _ => none }
def OrderManyWrongFalsely : Prop := orderManyRow.holds Tryd.pinned (OpenSpec.ofChange orderManyWrong)

/- THE SECOND FORM. 'bulk': how many values and letters a reading holds, each counted each time it is reached (what is shared counts as often as it is met; a slice's spare places count too). A statement '..UptoSaid' is the law's where the arguments, and the package variables that the reading takes, are together of bulk at most 1048576: NARROWER than '..Said'. Prove '..Said' where nothing that the law and all that it calls make is longer than what came in: it says more and counts as full. Else prove '..UptoSaid'. A law counts once. -/
mutual
def uptoBulk {H : Type} : DataW H → Nat
  | .lit (.string bytes) => bytes.length + 1
  | .lit _ => 1
  | .nil => 1
  | .ptr d => uptoBulk d + 1
  | .slice elems spare => uptoBulkAll elems + uptoBulkAll spare + 1
  | .agg parts => uptoBulkAll parts + 1
  | .iface _ d => uptoBulk d + 1
  | .map entries => uptoBulkEntries entries + 1
  | .held _ => 1
def uptoBulkAll {H : Type} : List (DataW H) → Nat
  | [] => 0
  | d :: r => uptoBulk d + uptoBulkAll r
def uptoBulkEntries {H : Type} : List (Lit × DataW H) → Nat
  | [] => 0
  | x :: r => uptoBulkEntry x + uptoBulkEntries r
def uptoBulkEntry {H : Type} : Lit × DataW H → Nat
  | (.string bytes, d) => bytes.length + uptoBulk d + 1
  | (_, d) => uptoBulk d + 1
 end
def uptoSmall : (H : Type) → List (DataW H) → Bool := fun _ ds => decide (uptoBulkAll ds ≤ 1048576)
def OpenSpec.upto (s : _root_.Go.ChangeSpec) : _root_.Go.OpenSpec := { _root_.Go.OpenSpec.ofChange s with cond := some uptoSmall }

/-- 'nomenclatorlaw08.OrderActions', WHERE WHAT IT READS IS OF BULK AT MOST 1048576: true; the input reads as it did. -/
def orderActionsUptoRow : OpenClaim := { program := "ytihplidgomjoeaadoor", sum := "c6efc085313040cb0a64fb12878af91a98a11ed8b44a41186796cf29f80e2961", func := "nomenclator/nomenclatorlaw08.OrderActions", spec := "orderActions", inPlace := ["internal/bytealg.CountString", "internal/bytealg.IndexByteString", "internal/bytealg.IndexString", "internal/abi.NoEscape", "internal/bytealg.MakeNoZero"], named := ["nomenclator/order.kinds", "internal/bytealg.MaxLen", "unicode/utf8.first", "unicode/utf8.acceptRanges", "nomenclator/order.outcomes"], apart := false, laid := [("unicode/utf8.acceptRanges", laid_unicode_utf8_acceptRanges), ("nomenclator/order.kinds", laid_nomenclator_order_kinds), ("nomenclator/order.outcomes", laid_nomenclator_order_outcomes), ("unicode/utf8.first", laid_unicode_utf8_first)], narrowed := true }
def OrderActionsUptoSaid : Prop := orderActionsUptoRow.holds Tryd.pinned (OpenSpec.upto orderActionsSpec)

/-- 'nomenclatorlaw08.OrderPlain', WHERE WHAT IT READS IS OF BULK AT MOST 1048576: true; the input reads as it did. -/
def orderPlainUptoRow : OpenClaim := { program := "ytihplidgomjoeaadoor", sum := "c6efc085313040cb0a64fb12878af91a98a11ed8b44a41186796cf29f80e2961", func := "nomenclator/nomenclatorlaw08.OrderPlain", spec := "orderPlain", inPlace := ["internal/bytealg.CountString", "internal/bytealg.IndexByteString", "internal/bytealg.IndexString", "internal/abi.NoEscape", "internal/bytealg.MakeNoZero"], named := ["nomenclator/order.kinds", "internal/bytealg.MaxLen", "unicode/utf8.first", "unicode/utf8.acceptRanges", "nomenclator/order.outcomes"], apart := false, laid := [("unicode/utf8.acceptRanges", laid_unicode_utf8_acceptRanges), ("nomenclator/order.kinds", laid_nomenclator_order_kinds), ("nomenclator/order.outcomes", laid_nomenclator_order_outcomes), ("unicode/utf8.first", laid_unicode_utf8_first)], narrowed := true }
def OrderPlainUptoSaid : Prop := orderPlainUptoRow.holds Tryd.pinned (OpenSpec.upto orderPlainSpec)

/-- 'nomenclatorlaw08.OrderBrackets', WHERE WHAT IT READS IS OF BULK AT MOST 1048576: true; the input reads as it did. -/
def orderBracketsUptoRow : OpenClaim := { program := "ytihplidgomjoeaadoor", sum := "c6efc085313040cb0a64fb12878af91a98a11ed8b44a41186796cf29f80e2961", func := "nomenclator/nomenclatorlaw08.OrderBrackets", spec := "orderBrackets", inPlace := ["internal/bytealg.CountString", "internal/bytealg.IndexByteString", "internal/bytealg.IndexString", "internal/abi.NoEscape", "internal/bytealg.MakeNoZero"], named := ["nomenclator/order.kinds", "internal/bytealg.MaxLen", "unicode/utf8.first", "unicode/utf8.acceptRanges", "nomenclator/order.outcomes"], apart := false, laid := [("unicode/utf8.acceptRanges", laid_unicode_utf8_acceptRanges), ("nomenclator/order.kinds", laid_nomenclator_order_kinds), ("nomenclator/order.outcomes", laid_nomenclator_order_outcomes), ("unicode/utf8.first", laid_unicode_utf8_first)], narrowed := true }
def OrderBracketsUptoSaid : Prop := orderBracketsUptoRow.holds Tryd.pinned (OpenSpec.upto orderBracketsSpec)

/-- 'nomenclatorlaw08.OrderSpaces', WHERE WHAT IT READS IS OF BULK AT MOST 1048576: true; the input reads as it did. -/
def orderSpacesUptoRow : OpenClaim := { program := "ytihplidgomjoeaadoor", sum := "c6efc085313040cb0a64fb12878af91a98a11ed8b44a41186796cf29f80e2961", func := "nomenclator/nomenclatorlaw08.OrderSpaces", spec := "orderSpaces", inPlace := ["internal/bytealg.CountString", "internal/bytealg.IndexByteString", "internal/bytealg.IndexString", "internal/abi.NoEscape", "internal/bytealg.MakeNoZero"], named := ["nomenclator/order.kinds", "internal/bytealg.MaxLen", "unicode/utf8.first", "unicode/utf8.acceptRanges", "nomenclator/order.outcomes"], apart := false, laid := [("unicode/utf8.acceptRanges", laid_unicode_utf8_acceptRanges), ("nomenclator/order.kinds", laid_nomenclator_order_kinds), ("nomenclator/order.outcomes", laid_nomenclator_order_outcomes), ("unicode/utf8.first", laid_unicode_utf8_first)], narrowed := true }
def OrderSpacesUptoSaid : Prop := orderSpacesUptoRow.holds Tryd.pinned (OpenSpec.upto orderSpacesSpec)

/-- 'nomenclatorlaw08.OrderBack', WHERE WHAT IT READS IS OF BULK AT MOST 1048576: true; the input reads as it did. -/
def orderBackUptoRow : OpenClaim := { program := "ytihplidgomjoeaadoor", sum := "c6efc085313040cb0a64fb12878af91a98a11ed8b44a41186796cf29f80e2961", func := "nomenclator/nomenclatorlaw08.OrderBack", spec := "orderBack", inPlace := ["internal/bytealg.CountString", "internal/bytealg.IndexByteString", "internal/bytealg.IndexString", "internal/abi.NoEscape", "internal/bytealg.MakeNoZero"], named := ["nomenclator/order.kinds", "internal/bytealg.MaxLen", "unicode/utf8.first", "unicode/utf8.acceptRanges", "nomenclator/order.outcomes"], apart := false, laid := [("unicode/utf8.acceptRanges", laid_unicode_utf8_acceptRanges), ("nomenclator/order.kinds", laid_nomenclator_order_kinds), ("nomenclator/order.outcomes", laid_nomenclator_order_outcomes), ("unicode/utf8.first", laid_unicode_utf8_first)], narrowed := true }
def OrderBackUptoSaid : Prop := orderBackUptoRow.holds Tryd.pinned (OpenSpec.upto orderBackSpec)

/-- 'nomenclatorlaw08.OrderMany', WHERE WHAT IT READS IS OF BULK AT MOST 1048576: true; the input reads as it did. -/
def orderManyUptoRow : OpenClaim := { program := "ytihplidgomjoeaadoor", sum := "c6efc085313040cb0a64fb12878af91a98a11ed8b44a41186796cf29f80e2961", func := "nomenclator/nomenclatorlaw08.OrderMany", spec := "orderMany", inPlace := ["internal/bytealg.CountString", "internal/bytealg.IndexByteString", "internal/bytealg.IndexString", "internal/abi.NoEscape", "internal/bytealg.MakeNoZero"], named := ["nomenclator/order.kinds", "internal/bytealg.MaxLen", "unicode/utf8.first", "unicode/utf8.acceptRanges", "nomenclator/order.outcomes"], apart := false, laid := [("unicode/utf8.acceptRanges", laid_unicode_utf8_acceptRanges), ("nomenclator/order.kinds", laid_nomenclator_order_kinds), ("nomenclator/order.outcomes", laid_nomenclator_order_outcomes), ("unicode/utf8.first", laid_unicode_utf8_first)], narrowed := true }
def OrderManyUptoSaid : Prop := orderManyUptoRow.holds Tryd.pinned (OpenSpec.upto orderManySpec)

end Rows
end Go.Proofs.YtihplidgomjoeaaDoor
