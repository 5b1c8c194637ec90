/-
  THE PACKAGE-LEVEL VARIABLES that the program only reads, with what they hold: this seat's.
-/
import Derived.WalkKit
namespace Go.Proofs.YtihplidgomjoeaaDoorAv
open Go Go.RowKit
/-- What a variable's cell is known to hold: just that; or some whole number. -/
inductive GV where
  | val (v : Value)
  | int (k : IntKind)
def glbT : List (Nat × List GV) := [
  (0, [.val (.string ⟨#[102, 105, 108, 101, 115]⟩), .val (.string ⟨#[100, 110, 115]⟩), .val (.string ⟨#[108, 108, 109, 110, 114]⟩)]),
  (1, [.val (.string ⟨#[83, 85, 67, 67, 69, 83, 83]⟩), .val (.string ⟨#[78, 79, 84, 70, 79, 85, 78, 68]⟩), .val (.string ⟨#[85, 78, 65, 86, 65, 73, 76]⟩), .val (.string ⟨#[84, 82, 89, 65, 71, 65, 73, 78]⟩)]),
  (2, [.int .i64])]
end Go.Proofs.YtihplidgomjoeaaDoorAv
