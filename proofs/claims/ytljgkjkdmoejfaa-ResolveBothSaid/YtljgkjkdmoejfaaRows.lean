/-
  No cell of these rows narrows 'for every input' (looked for: loops, veiled, ifaces, maps, wideKeys, modest, calm, conditions, laid).
  DERIVED. THE GIVEN ROWS OF THIS SEAT. 10 by the template 'for every input the law returns true; each argument reads behind the call as it read before'; 0 by the template 'total and deterministic' (their statements: YtljgkjkdmoejfaaTotals.lean).
  GIVEN WITH THE SEED: the statements are not yours to turn. If you find one false, say at which input.
  Laid BY PROGRAM, IN A SANDBOX (cutbox-rows.mjs): the forced cells as the released guide's own fill.sh prints them over the translation a8836147e4d2d9ef… (all of the seat's roots in one cut). By AI agents, Wed Nov 11 2026. No macro, syntax, notation, axiom, sorry.
-/
import Derived.Test.YtljgkjkdmoejfaaChecked
import GoSem.Claim
import GoSem.ClaimJoined
import GoSem.ClaimMapViews
import Derived.JoinedTies
import Derived.KernelRfl
namespace Go.Proofs.Ytljgkjkdmoejfaa
/- THE CELL 'sum', in the pinned program and in every row, IS THE sha256 OF THE DUMP (.gsa) THAT YtljgkjkdmoejfaaProg.lean LOADS. Nothing in Lean hashes anything: it is a label: what it is worth is what the hold of that sum in a sandbox is worth. -/
noncomputable def Try.pinned : Pinned := { name := "ytljgkjkdmoejfaa", sum := "a8836147e4d2d9efb09b200cc32011f5381e68028037759a5585dbffe1293633", checked := Try.checked }
namespace Rows
def none {H : Type} : Left H := { results := [], args := [] }

/-- 'nomenclatorlaw01.LabelLower': WHATEVER THE INPUT: true; the input reads as it did. -/
def labelLowerSpec : ChangeSpec := { name := "labelLower", fn := fun _ => fun
  | [d] => { results := [.lit (.bool true)], args := [d] }
  | _ => none }
def labelLowerRow : OpenClaim := { program := "ytljgkjkdmoejfaa", sum := "a8836147e4d2d9efb09b200cc32011f5381e68028037759a5585dbffe1293633", func := "nomenclator/nomenclatorlaw01.LabelLower", spec := "labelLower", apart := false }
def LabelLowerSaid : Prop := labelLowerRow.holds Try.pinned (OpenSpec.ofChange labelLowerSpec)

/-- ITS FALSE NEIGHBOUR: 'it returns false'. Refute it at one input. -/
def labelLowerWrong : ChangeSpec := { name := "labelLower", fn := fun _ => fun
  | [d] => { results := [.lit (.bool false)], args := [d] }
  | _ => none }
def LabelLowerWrongFalsely : Prop := labelLowerRow.holds Try.pinned (OpenSpec.ofChange labelLowerWrong)

/-- 'nomenclatorlaw01.LabelUnder': WHATEVER THE INPUT: true; the input reads as it did. -/
def labelUnderSpec : ChangeSpec := { name := "labelUnder", fn := fun _ => fun
  | [d1, d2] => { results := [.lit (.bool true)], args := [d1, d2] }
  | _ => none }
def labelUnderRow : OpenClaim := { program := "ytljgkjkdmoejfaa", sum := "a8836147e4d2d9efb09b200cc32011f5381e68028037759a5585dbffe1293633", func := "nomenclator/nomenclatorlaw01.LabelUnder", spec := "labelUnder", apart := false }
def LabelUnderSaid : Prop := labelUnderRow.holds Try.pinned (OpenSpec.ofChange labelUnderSpec)

/-- ITS FALSE NEIGHBOUR: 'it returns false'. Refute it at one input. -/
def labelUnderWrong : ChangeSpec := { name := "labelUnder", fn := fun _ => fun
  | [d1, d2] => { results := [.lit (.bool false)], args := [d1, d2] }
  | _ => none }
def LabelUnderWrongFalsely : Prop := labelUnderRow.holds Try.pinned (OpenSpec.ofChange labelUnderWrong)

/-- 'nomenclatorlaw01.LabelRight': WHATEVER THE INPUT: true; the input reads as it did. -/
def labelRightSpec : ChangeSpec := { name := "labelRight", fn := fun _ => fun
  | [d] => { results := [.lit (.bool true)], args := [d] }
  | _ => none }
def labelRightRow : OpenClaim := { program := "ytljgkjkdmoejfaa", sum := "a8836147e4d2d9efb09b200cc32011f5381e68028037759a5585dbffe1293633", func := "nomenclator/nomenclatorlaw01.LabelRight", spec := "labelRight", apart := false }
def LabelRightSaid : Prop := labelRightRow.holds Try.pinned (OpenSpec.ofChange labelRightSpec)

/-- ITS FALSE NEIGHBOUR: 'it returns false'. Refute it at one input. -/
def labelRightWrong : ChangeSpec := { name := "labelRight", fn := fun _ => fun
  | [d] => { results := [.lit (.bool false)], args := [d] }
  | _ => none }
def LabelRightWrongFalsely : Prop := labelRightRow.holds Try.pinned (OpenSpec.ofChange labelRightWrong)

/-- 'nomenclatorlaw01.LabelTurns': WHATEVER THE INPUT: true; the input reads as it did. -/
def labelTurnsSpec : ChangeSpec := { name := "labelTurns", fn := fun _ => fun
  | [d1, d2, d3] => { results := [.lit (.bool true)], args := [d1, d2, d3] }
  | _ => none }
def labelTurnsRow : OpenClaim := { program := "ytljgkjkdmoejfaa", sum := "a8836147e4d2d9efb09b200cc32011f5381e68028037759a5585dbffe1293633", func := "nomenclator/nomenclatorlaw01.LabelTurns", spec := "labelTurns", apart := false }
def LabelTurnsSaid : Prop := labelTurnsRow.holds Try.pinned (OpenSpec.ofChange labelTurnsSpec)

/-- ITS FALSE NEIGHBOUR: 'it returns false'. Refute it at one input. -/
def labelTurnsWrong : ChangeSpec := { name := "labelTurns", fn := fun _ => fun
  | [d1, d2, d3] => { results := [.lit (.bool false)], args := [d1, d2, d3] }
  | _ => none }
def LabelTurnsWrongFalsely : Prop := labelTurnsRow.holds Try.pinned (OpenSpec.ofChange labelTurnsWrong)

/-- 'nomenclatorlaw01.LabelParts': WHATEVER THE INPUT: true; the input reads as it did. -/
def labelPartsSpec : ChangeSpec := { name := "labelParts", fn := fun _ => fun
  | [d] => { results := [.lit (.bool true)], args := [d] }
  | _ => none }
def labelPartsRow : OpenClaim := { program := "ytljgkjkdmoejfaa", sum := "a8836147e4d2d9efb09b200cc32011f5381e68028037759a5585dbffe1293633", func := "nomenclator/nomenclatorlaw01.LabelParts", spec := "labelParts", apart := false }
def LabelPartsSaid : Prop := labelPartsRow.holds Try.pinned (OpenSpec.ofChange labelPartsSpec)

/-- ITS FALSE NEIGHBOUR: 'it returns false'. Refute it at one input. -/
def labelPartsWrong : ChangeSpec := { name := "labelParts", fn := fun _ => fun
  | [d] => { results := [.lit (.bool false)], args := [d] }
  | _ => none }
def LabelPartsWrongFalsely : Prop := labelPartsRow.holds Try.pinned (OpenSpec.ofChange labelPartsWrong)

/-- 'nomenclatorlaw01.LabelCounts': WHATEVER THE INPUT: true; the input reads as it did. -/
def labelCountsSpec : ChangeSpec := { name := "labelCounts", fn := fun _ => fun
  | [d1, d2] => { results := [.lit (.bool true)], args := [d1, d2] }
  | _ => none }
def labelCountsRow : OpenClaim := { program := "ytljgkjkdmoejfaa", sum := "a8836147e4d2d9efb09b200cc32011f5381e68028037759a5585dbffe1293633", func := "nomenclator/nomenclatorlaw01.LabelCounts", spec := "labelCounts", apart := false }
def LabelCountsSaid : Prop := labelCountsRow.holds Try.pinned (OpenSpec.ofChange labelCountsSpec)

/-- ITS FALSE NEIGHBOUR: 'it returns false'. Refute it at one input. -/
def labelCountsWrong : ChangeSpec := { name := "labelCounts", fn := fun _ => fun
  | [d1, d2] => { results := [.lit (.bool false)], args := [d1, d2] }
  | _ => none }
def LabelCountsWrongFalsely : Prop := labelCountsRow.holds Try.pinned (OpenSpec.ofChange labelCountsWrong)

/-- 'nomenclatorlaw16.ResolveLists': WHATEVER THE INPUT: true; the input reads as it did. -/
def resolveListsSpec : ChangeSpec := { name := "resolveLists", fn := fun _ => fun
  | [d1, d2, d3] => { results := [.lit (.bool true)], args := [d1, d2, d3] }
  | _ => none }
def resolveListsRow : OpenClaim := { program := "ytljgkjkdmoejfaa", sum := "a8836147e4d2d9efb09b200cc32011f5381e68028037759a5585dbffe1293633", func := "nomenclator/nomenclatorlaw16.ResolveLists", spec := "resolveLists", apart := false }
def ResolveListsSaid : Prop := resolveListsRow.holds Try.pinned (OpenSpec.ofChange resolveListsSpec)

/-- ITS FALSE NEIGHBOUR: 'it returns false'. Refute it at one input. -/
def resolveListsWrong : ChangeSpec := { name := "resolveLists", fn := fun _ => fun
  | [d1, d2, d3] => { results := [.lit (.bool false)], args := [d1, d2, d3] }
  | _ => none }
def ResolveListsWrongFalsely : Prop := resolveListsRow.holds Try.pinned (OpenSpec.ofChange resolveListsWrong)

/-- 'nomenclatorlaw16.ResolveBoth': WHATEVER THE INPUT: true; the input reads as it did. -/
def resolveBothSpec : ChangeSpec := { name := "resolveBoth", fn := fun _ => fun
  | [d1, d2, d3] => { results := [.lit (.bool true)], args := [d1, d2, d3] }
  | _ => none }
def resolveBothRow : OpenClaim := { program := "ytljgkjkdmoejfaa", sum := "a8836147e4d2d9efb09b200cc32011f5381e68028037759a5585dbffe1293633", func := "nomenclator/nomenclatorlaw16.ResolveBoth", spec := "resolveBoth", apart := false }
def ResolveBothSaid : Prop := resolveBothRow.holds Try.pinned (OpenSpec.ofChange resolveBothSpec)

/-- ITS FALSE NEIGHBOUR: 'it returns false'. Refute it at one input. -/
def resolveBothWrong : ChangeSpec := { name := "resolveBoth", fn := fun _ => fun
  | [d1, d2, d3] => { results := [.lit (.bool false)], args := [d1, d2, d3] }
  | _ => none }
def ResolveBothWrongFalsely : Prop := resolveBothRow.holds Try.pinned (OpenSpec.ofChange resolveBothWrong)

/-- 'nomenclatorlaw16.ResolveStops': WHATEVER THE INPUT: true; the input reads as it did. -/
def resolveStopsSpec : ChangeSpec := { name := "resolveStops", fn := fun _ => fun
  | [d1, d2] => { results := [.lit (.bool true)], args := [d1, d2] }
  | _ => none }
def resolveStopsRow : OpenClaim := { program := "ytljgkjkdmoejfaa", sum := "a8836147e4d2d9efb09b200cc32011f5381e68028037759a5585dbffe1293633", func := "nomenclator/nomenclatorlaw16.ResolveStops", spec := "resolveStops", apart := false }
def ResolveStopsSaid : Prop := resolveStopsRow.holds Try.pinned (OpenSpec.ofChange resolveStopsSpec)

/-- ITS FALSE NEIGHBOUR: 'it returns false'. Refute it at one input. -/
def resolveStopsWrong : ChangeSpec := { name := "resolveStops", fn := fun _ => fun
  | [d1, d2] => { results := [.lit (.bool false)], args := [d1, d2] }
  | _ => none }
def ResolveStopsWrongFalsely : Prop := resolveStopsRow.holds Try.pinned (OpenSpec.ofChange resolveStopsWrong)

/-- 'nomenclatorlaw16.ResolveAsks': WHATEVER THE INPUT: true; the input reads as it did. -/
def resolveAsksSpec : ChangeSpec := { name := "resolveAsks", fn := fun _ => fun
  | [d1, d2] => { results := [.lit (.bool true)], args := [d1, d2] }
  | _ => none }
def resolveAsksRow : OpenClaim := { program := "ytljgkjkdmoejfaa", sum := "a8836147e4d2d9efb09b200cc32011f5381e68028037759a5585dbffe1293633", func := "nomenclator/nomenclatorlaw16.ResolveAsks", spec := "resolveAsks", apart := false }
def ResolveAsksSaid : Prop := resolveAsksRow.holds Try.pinned (OpenSpec.ofChange resolveAsksSpec)

/-- ITS FALSE NEIGHBOUR: 'it returns false'. Refute it at one input. -/
def resolveAsksWrong : ChangeSpec := { name := "resolveAsks", fn := fun _ => fun
  | [d1, d2] => { results := [.lit (.bool false)], args := [d1, d2] }
  | _ => none }
def ResolveAsksWrongFalsely : Prop := resolveAsksRow.holds Try.pinned (OpenSpec.ofChange resolveAsksWrong)

/- THE SECOND FORM. 'bulk': how many values and letters a reading holds, each counted each time it is reached (what is shared counts as often as it is met; a slice's spare places count too). A statement '..UptoSaid' is the law's where the arguments, and the package variables that the reading takes, are together of bulk at most 1048576: NARROWER than '..Said'. Prove '..Said' where nothing that the law and all that it calls make is longer than what came in: it says more and counts as full. Else prove '..UptoSaid'. A law counts once. -/
mutual
def uptoBulk {H : Type} : DataW H → Nat
  | .lit (.string bytes) => bytes.length + 1
  | .lit _ => 1
  | .nil => 1
  | .ptr d => uptoBulk d + 1
  | .slice elems spare => uptoBulkAll elems + uptoBulkAll spare + 1
  | .agg parts => uptoBulkAll parts + 1
  | .iface _ d => uptoBulk d + 1
  | .map entries => uptoBulkEntries entries + 1
  | .held _ => 1
def uptoBulkAll {H : Type} : List (DataW H) → Nat
  | [] => 0
  | d :: r => uptoBulk d + uptoBulkAll r
def uptoBulkEntries {H : Type} : List (Lit × DataW H) → Nat
  | [] => 0
  | x :: r => uptoBulkEntry x + uptoBulkEntries r
def uptoBulkEntry {H : Type} : Lit × DataW H → Nat
  | (.string bytes, d) => bytes.length + uptoBulk d + 1
  | (_, d) => uptoBulk d + 1
 end
def uptoSmall : (H : Type) → List (DataW H) → Bool := fun _ ds => decide (uptoBulkAll ds ≤ 1048576)
def OpenSpec.upto (s : _root_.Go.ChangeSpec) : _root_.Go.OpenSpec := { _root_.Go.OpenSpec.ofChange s with cond := some uptoSmall }

/-- 'nomenclatorlaw01.LabelLower', WHERE WHAT IT READS IS OF BULK AT MOST 1048576: true; the input reads as it did. -/
def labelLowerUptoRow : OpenClaim := { program := "ytljgkjkdmoejfaa", sum := "a8836147e4d2d9efb09b200cc32011f5381e68028037759a5585dbffe1293633", func := "nomenclator/nomenclatorlaw01.LabelLower", spec := "labelLower", apart := false, narrowed := true }
def LabelLowerUptoSaid : Prop := labelLowerUptoRow.holds Try.pinned (OpenSpec.upto labelLowerSpec)

/-- 'nomenclatorlaw01.LabelUnder', WHERE WHAT IT READS IS OF BULK AT MOST 1048576: true; the input reads as it did. -/
def labelUnderUptoRow : OpenClaim := { program := "ytljgkjkdmoejfaa", sum := "a8836147e4d2d9efb09b200cc32011f5381e68028037759a5585dbffe1293633", func := "nomenclator/nomenclatorlaw01.LabelUnder", spec := "labelUnder", apart := false, narrowed := true }
def LabelUnderUptoSaid : Prop := labelUnderUptoRow.holds Try.pinned (OpenSpec.upto labelUnderSpec)

/-- 'nomenclatorlaw01.LabelRight', WHERE WHAT IT READS IS OF BULK AT MOST 1048576: true; the input reads as it did. -/
def labelRightUptoRow : OpenClaim := { program := "ytljgkjkdmoejfaa", sum := "a8836147e4d2d9efb09b200cc32011f5381e68028037759a5585dbffe1293633", func := "nomenclator/nomenclatorlaw01.LabelRight", spec := "labelRight", apart := false, narrowed := true }
def LabelRightUptoSaid : Prop := labelRightUptoRow.holds Try.pinned (OpenSpec.upto labelRightSpec)

/-- 'nomenclatorlaw01.LabelTurns', WHERE WHAT IT READS IS OF BULK AT MOST 1048576: true; the input reads as it did. -/
def labelTurnsUptoRow : OpenClaim := { program := "ytljgkjkdmoejfaa", sum := "a8836147e4d2d9efb09b200cc32011f5381e68028037759a5585dbffe1293633", func := "nomenclator/nomenclatorlaw01.LabelTurns", spec := "labelTurns", apart := false, narrowed := true }
def LabelTurnsUptoSaid : Prop := labelTurnsUptoRow.holds Try.pinned (OpenSpec.upto labelTurnsSpec)

/-- 'nomenclatorlaw01.LabelParts', WHERE WHAT IT READS IS OF BULK AT MOST 1048576: true; the input reads as it did. -/
def labelPartsUptoRow : OpenClaim := { program := "ytljgkjkdmoejfaa", sum := "a8836147e4d2d9efb09b200cc32011f5381e68028037759a5585dbffe1293633", func := "nomenclator/nomenclatorlaw01.LabelParts", spec := "labelParts", apart := false, narrowed := true }
def LabelPartsUptoSaid : Prop := labelPartsUptoRow.holds Try.pinned (OpenSpec.upto labelPartsSpec)

/-- 'nomenclatorlaw01.LabelCounts', WHERE WHAT IT READS IS OF BULK AT MOST 1048576: true; the input reads as it did. -/
def labelCountsUptoRow : OpenClaim := { program := "ytljgkjkdmoejfaa", sum := "a8836147e4d2d9efb09b200cc32011f5381e68028037759a5585dbffe1293633", func := "nomenclator/nomenclatorlaw01.LabelCounts", spec := "labelCounts", apart := false, narrowed := true }
def LabelCountsUptoSaid : Prop := labelCountsUptoRow.holds Try.pinned (OpenSpec.upto labelCountsSpec)

/-- 'nomenclatorlaw16.ResolveLists', WHERE WHAT IT READS IS OF BULK AT MOST 1048576: true; the input reads as it did. -/
def resolveListsUptoRow : OpenClaim := { program := "ytljgkjkdmoejfaa", sum := "a8836147e4d2d9efb09b200cc32011f5381e68028037759a5585dbffe1293633", func := "nomenclator/nomenclatorlaw16.ResolveLists", spec := "resolveLists", apart := false, narrowed := true }
def ResolveListsUptoSaid : Prop := resolveListsUptoRow.holds Try.pinned (OpenSpec.upto resolveListsSpec)

/-- 'nomenclatorlaw16.ResolveBoth', WHERE WHAT IT READS IS OF BULK AT MOST 1048576: true; the input reads as it did. -/
def resolveBothUptoRow : OpenClaim := { program := "ytljgkjkdmoejfaa", sum := "a8836147e4d2d9efb09b200cc32011f5381e68028037759a5585dbffe1293633", func := "nomenclator/nomenclatorlaw16.ResolveBoth", spec := "resolveBoth", apart := false, narrowed := true }
def ResolveBothUptoSaid : Prop := resolveBothUptoRow.holds Try.pinned (OpenSpec.upto resolveBothSpec)

/-- 'nomenclatorlaw16.ResolveStops', WHERE WHAT IT READS IS OF BULK AT MOST 1048576: true; the input reads as it did. -/
def resolveStopsUptoRow : OpenClaim := { program := "ytljgkjkdmoejfaa", sum := "a8836147e4d2d9efb09b200cc32011f5381e68028037759a5585dbffe1293633", func := "nomenclator/nomenclatorlaw16.ResolveStops", spec := "resolveStops", apart := false, narrowed := true }
def ResolveStopsUptoSaid : Prop := resolveStopsUptoRow.holds Try.pinned (OpenSpec.upto resolveStopsSpec)

/-- 'nomenclatorlaw16.ResolveAsks', WHERE WHAT IT READS IS OF BULK AT MOST 1048576: true; the input reads as it did. -/
def resolveAsksUptoRow : OpenClaim := { program := "ytljgkjkdmoejfaa", sum := "a8836147e4d2d9efb09b200cc32011f5381e68028037759a5585dbffe1293633", func := "nomenclator/nomenclatorlaw16.ResolveAsks", spec := "resolveAsks", apart := false, narrowed := true }
def ResolveAsksUptoSaid : Prop := resolveAsksUptoRow.holds Try.pinned (OpenSpec.upto resolveAsksSpec)

end Rows
end Go.Proofs.Ytljgkjkdmoejfaa
