/-
  THE PACKAGE-LEVEL VARIABLES that the program only reads, with what they hold: this seat's (none).
-/
import Derived.WalkKit
namespace Go.Proofs.YtljgkjkdmoejfaaAv
open Go Go.RowKit
/-- What a variable's cell is known to hold: just that; or some whole number; or some value of an interface. -/
inductive GV where
  | val (v : Value)
  | int (k : IntKind)
  | ifc
def glbT : List (Nat × List GV) := []
end Go.Proofs.YtljgkjkdmoejfaaAv
