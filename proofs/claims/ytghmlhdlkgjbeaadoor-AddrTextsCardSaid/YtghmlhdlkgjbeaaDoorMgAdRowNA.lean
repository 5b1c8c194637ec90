/- Own texts, put together: AdN; AdU; AdV; AdW; AdRowN. -/
import Derived.Test.YtghmlhdlkgjbeaaDoorMgF
set_option linter.unusedVariables false
set_option linter.unusedSimpArgs false
set_option maxRecDepth 100000
namespace Go.Proofs.YtghmlhdlkgjbeaaDoorAv
open Go Go.RowKit
/-- How many points, and how many digits, ahead of a place. -/
def ptC (s : ByteArray) : Nat → Int
  | 0 => 0
  | i + 1 => if sbyte s i = 46 then ptC s i + 1 else ptC s i
def dgC (s : ByteArray) : Nat → Int
  | 0 => 0
  | i + 1 => if sbyte s i = 46 then dgC s i else if 48 ≤ sbyte s i ∧ sbyte s i ≤ 57 then dgC s i + 1 else dgC s i
/-- How many pairs of colons, and how many colons. -/
def gaC (s : ByteArray) : Nat → Int
  | 0 => 0
  | i + 1 => if sbyte s i = 58 ∧ 0 < i ∧ sbyte s ((i : Int) - 1) = 58 then gaC s i + 1 else gaC s i
def coC (s : ByteArray) : Nat → Int
  | 0 => 0
  | i + 1 => if sbyte s i = 58 then coC s i + 1 else coC s i
/-- Do four zero bytes stand together at some group ahead? -/
def zeC (a : Nat → Int) : Nat → Int
  | 0 => 0
  | i + 1 => if a (2 * i) = 0 ∧ a (2 * i + 1) = 0 ∧ a (2 * i + 2) = 0 ∧ a (2 * i + 3) = 0 then 1 else zeC a i
structure IW where
  i : Nat
def tx0 (a : Nat → Int) : Inv where
  σ := IW
  S := fun x => ⟨[(1, .ptr 0 0 0 0), (2, XB false), (3, XT (prn a)), (4, XI (dgC (prn a) x.i)), (5, XI (ptC (prn a) x.i)), (20, XI (prn a).size), (21, XI x.i)], [(0, .one 23 true (adr a).cells)], 1, false, []⟩
  inv := fun x => x.i ≤ (prn a).size
  μ := fun x => (prn a).size - x.i
def tx2 (a : Nat → Int) : Inv where
  σ := IW
  S := fun x => ⟨[(1, .ptr 0 0 0 0), (2, XB false), (3, XT (prn a)), (7, XI (gaC (prn a) x.i)), (8, XI 0), (9, XI (coC (prn a) x.i)), (67, XI (prn a).size), (68, XI x.i)], [(0, .one 23 true (adr a).cells)], 1, false, []⟩
  inv := fun x => x.i ≤ (prn a).size
  μ := fun x => (prn a).size - x.i
def tx4 (a : Nat → Int) : Inv where
  σ := IW
  S := fun x => ⟨[(1, .ptr 0 0 0 0), (2, XB false), (3, XT (prn a)), (7, XI (gaC (prn a) (prn a).size)), (8, XI (zeC a x.i)), (9, XI (coC (prn a) (prn a).size)), (131, XI x.i)], [(0, .one 23 true (adr a).cells)], 1, false, []⟩
  inv := fun x => x.i ≤ 7
  μ := fun x => 7 - x.i
def txE (a : Nat → Int) : Env := { loops := [(0, tx0 a), (2, tx2 a), (4, tx4 a)] }
def textsV (a : Nat → Int) : Prop :=
  ((!true) = true → false = true) ∧ ((!true) = false → (b16 fun (i : Nat) => [a (0 : Nat), a (1 : Nat), a (2 : Nat), a (3 : Nat), a (4 : Nat), a (5 : Nat), a (6 : Nat), a (7 : Nat), a (8 : Nat), a (9 : Nat), a (10 : Nat), a (11 : Nat), a (12 : Nat), a (13 : Nat), a (14 : Nat), a (15 : Nat)].getD i (0 : Int)) ∧ ((is4 fun (i : Nat) => [a (0 : Nat), a (1 : Nat), a (2 : Nat), a (3 : Nat), a (4 : Nat), a (5 : Nat), a (6 : Nat), a (7 : Nat), a (8 : Nat), a (9 : Nat), a (10 : Nat), a (11 : Nat), a (12 : Nat), a (13 : Nat), a (14 : Nat), a (15 : Nat)].getD i (0 : Int)) = true → (∃ (x : (tx0 a).σ), x.i.le (prn a).size ∧ true = true ∧ XV.ptr (0 : Nat) (0 : Nat) (0 : Nat) (0 : Nat) = XV.ptr (0 : Nat) (0 : Nat) (0 : Nat) (0 : Nat) ∧ false = false ∧ (prn fun (i : Nat) => [a (0 : Nat), a (1 : Nat), a (2 : Nat), a (3 : Nat), a (4 : Nat), a (5 : Nat), a (6 : Nat), a (7 : Nat), a (8 : Nat), a (9 : Nat), a (10 : Nat), a (11 : Nat), a (12 : Nat), a (13 : Nat), a (14 : Nat), a (15 : Nat)].getD i (0 : Int)) = prn a ∧ (0 : Int) = dgC (prn a) x.i ∧ (0 : Int) = ptC (prn a) x.i ∧ (↑(prn fun (i : Nat) => [a (0 : Nat), a (1 : Nat), a (2 : Nat), a (3 : Nat), a (4 : Nat), a (5 : Nat), a (6 : Nat), a (7 : Nat), a (8 : Nat), a (9 : Nat), a (10 : Nat), a (11 : Nat), a (12 : Nat), a (13 : Nat), a (14 : Nat), a (15 : Nat)].getD i (0 : Int)).size : Int) = (↑(prn a).size : Int) ∧ (0 : Int) = (↑x.i : Int) ∧ (((23 : Nat) = (23 : TypeId) ∧ true = true) ∧ a (0 : Nat) = a (0 : Nat) ∧ a (1 : Nat) = a (1 : Nat) ∧ a (2 : Nat) = a (2 : Nat) ∧ a (3 : Nat) = a (3 : Nat) ∧ a (4 : Nat) = a (4 : Nat) ∧ a (5 : Nat) = a (5 : Nat) ∧ a (6 : Nat) = a (6 : Nat) ∧ a (7 : Nat) = a (7 : Nat) ∧ a (8 : Nat) = a (8 : Nat) ∧ a (9 : Nat) = a (9 : Nat) ∧ a (10 : Nat) = a (10 : Nat) ∧ a (11 : Nat) = a (11 : Nat) ∧ a (12 : Nat) = a (12 : Nat) ∧ a (13 : Nat) = a (13 : Nat) ∧ a (14 : Nat) = a (14 : Nat) ∧ a (15 : Nat) = a (15 : Nat) ∧ True) ∧ True) ∧ ∀ (x : IW), x.i.le (prn a).size → (decide ((↑x.i : Int) < (↑(prn a).size : Int)) = true → (0 : Int) ≤ (↑x.i : Int) ∧ (↑x.i : Int) < (↑(prn a).size : Int) ∧ ((sbyte (prn a) (↑x.i : Int) == (46 : Int)) = true → in64 (ptC (prn a) x.i + (1 : Int)) ∧ in64 ((↑x.i : Int) + (1 : Int)) ∧ ∃ (x' : (tx0 a).σ), x'.i.le (prn a).size ∧ (prn a).size - x'.i < (prn a).size - x.i ∧ true = true ∧ XV.ptr (0 : Nat) (0 : Nat) (0 : Nat) (0 : Nat) = XV.ptr (0 : Nat) (0 : Nat) (0 : Nat) (0 : Nat) ∧ false = false ∧ prn a = prn a ∧ dgC (prn a) x.i = dgC (prn a) x'.i ∧ ptC (prn a) x.i + (1 : Int) = ptC (prn a) x'.i ∧ (↑(prn a).size : Int) = (↑(prn a).size : Int) ∧ (↑x.i : Int) + (1 : Int) = (↑x'.i : Int) ∧ (((23 : TypeId) = (23 : TypeId) ∧ true = true) ∧ a (0 : Nat) = a (0 : Nat) ∧ a (1 : Nat) = a (1 : Nat) ∧ a (2 : Nat) = a (2 : Nat) ∧ a (3 : Nat) = a (3 : Nat) ∧ a (4 : Nat) = a (4 : Nat) ∧ a (5 : Nat) = a (5 : Nat) ∧ a (6 : Nat) = a (6 : Nat) ∧ a (7 : Nat) = a (7 : Nat) ∧ a (8 : Nat) = a (8 : Nat) ∧ a (9 : Nat) = a (9 : Nat) ∧ a (10 : Nat) = a (10 : Nat) ∧ a (11 : Nat) = a (11 : Nat) ∧ a (12 : Nat) = a (12 : Nat) ∧ a (13 : Nat) = a (13 : Nat) ∧ a (14 : Nat) = a (14 : Nat) ∧ a (15 : Nat) = a (15 : Nat) ∧ True) ∧ True) ∧ ((sbyte (prn a) (↑x.i : Int) == (46 : Int)) = false → (0 : Int) ≤ (↑x.i : Int) ∧ (↑x.i : Int) < (↑(prn a).size : Int) ∧ (decide (sbyte (prn a) (↑x.i : Int) ≥ (48 : Int)) = true → (0 : Int) ≤ (↑x.i : Int)) ∧ (decide (sbyte (prn a) (↑x.i : Int) ≥ (48 : Int)) = true → (↑x.i : Int) < (↑(prn a).size : Int)) ∧ ((decide (sbyte (prn a) (↑x.i : Int) ≥ (48 : Int)) && decide (sbyte (prn a) (↑x.i : Int) ≤ (57 : Int))) = true → in64 (dgC (prn a) x.i + (1 : Int)) ∧ in64 ((↑x.i : Int) + (1 : Int)) ∧ ∃ (x' : (tx0 a).σ), x'.i.le (prn a).size ∧ (prn a).size - x'.i < (prn a).size - x.i ∧ true = true ∧ XV.ptr (0 : Nat) (0 : Nat) (0 : Nat) (0 : Nat) = XV.ptr (0 : Nat) (0 : Nat) (0 : Nat) (0 : Nat) ∧ false = false ∧ prn a = prn a ∧ dgC (prn a) x.i + (1 : Int) = dgC (prn a) x'.i ∧ ptC (prn a) x.i = ptC (prn a) x'.i ∧ (↑(prn a).size : Int) = (↑(prn a).size : Int) ∧ (↑x.i : Int) + (1 : Int) = (↑x'.i : Int) ∧ (((23 : TypeId) = (23 : TypeId) ∧ true = true) ∧ a (0 : Nat) = a (0 : Nat) ∧ a (1 : Nat) = a (1 : Nat) ∧ a (2 : Nat) = a (2 : Nat) ∧ a (3 : Nat) = a (3 : Nat) ∧ a (4 : Nat) = a (4 : Nat) ∧ a (5 : Nat) = a (5 : Nat) ∧ a (6 : Nat) = a (6 : Nat) ∧ a (7 : Nat) = a (7 : Nat) ∧ a (8 : Nat) = a (8 : Nat) ∧ a (9 : Nat) = a (9 : Nat) ∧ a (10 : Nat) = a (10 : Nat) ∧ a (11 : Nat) = a (11 : Nat) ∧ a (12 : Nat) = a (12 : Nat) ∧ a (13 : Nat) = a (13 : Nat) ∧ a (14 : Nat) = a (14 : Nat) ∧ a (15 : Nat) = a (15 : Nat) ∧ True) ∧ True) ∧ ((decide (sbyte (prn a) (↑x.i : Int) ≥ (48 : Int)) && decide (sbyte (prn a) (↑x.i : Int) ≤ (57 : Int))) = false → in64 ((↑x.i : Int) + (1 : Int)) ∧ ∃ (x' : (tx0 a).σ), x'.i.le (prn a).size ∧ (prn a).size - x'.i < (prn a).size - x.i ∧ true = true ∧ XV.ptr (0 : Nat) (0 : Nat) (0 : Nat) (0 : Nat) = XV.ptr (0 : Nat) (0 : Nat) (0 : Nat) (0 : Nat) ∧ false = false ∧ prn a = prn a ∧ dgC (prn a) x.i = dgC (prn a) x'.i ∧ ptC (prn a) x.i = ptC (prn a) x'.i ∧ (↑(prn a).size : Int) = (↑(prn a).size : Int) ∧ (↑x.i : Int) + (1 : Int) = (↑x'.i : Int) ∧ (((23 : TypeId) = (23 : TypeId) ∧ true = true) ∧ a (0 : Nat) = a (0 : Nat) ∧ a (1 : Nat) = a (1 : Nat) ∧ a (2 : Nat) = a (2 : Nat) ∧ a (3 : Nat) = a (3 : Nat) ∧ a (4 : Nat) = a (4 : Nat) ∧ a (5 : Nat) = a (5 : Nat) ∧ a (6 : Nat) = a (6 : Nat) ∧ a (7 : Nat) = a (7 : Nat) ∧ a (8 : Nat) = a (8 : Nat) ∧ a (9 : Nat) = a (9 : Nat) ∧ a (10 : Nat) = a (10 : Nat) ∧ a (11 : Nat) = a (11 : Nat) ∧ a (12 : Nat) = a (12 : Nat) ∧ a (13 : Nat) = a (13 : Nat) ∧ a (14 : Nat) = a (14 : Nat) ∧ a (15 : Nat) = a (15 : Nat) ∧ True) ∧ True))) ∧ (decide ((↑x.i : Int) < (↑(prn a).size : Int)) = false → ((ptC (prn a) x.i == (3 : Int)) = true → in64 ((↑(prn a).size : Int) - (3 : Int))) ∧ ((ptC (prn a) x.i == (3 : Int) && dgC (prn a) x.i == (↑(prn a).size : Int) - (3 : Int) && decide (dgC (prn a) x.i ≥ (4 : Int))) = true → (0 : Int) ≤ (10 : Int)) ∧ ((ptC (prn a) x.i == (3 : Int) && dgC (prn a) x.i == (↑(prn a).size : Int) - (3 : Int) && decide (dgC (prn a) x.i ≥ (4 : Int))) = true → (10 : Int) < (↑(16 : Nat) : Int)) ∧ ((ptC (prn a) x.i == (3 : Int) && dgC (prn a) x.i == (↑(prn a).size : Int) - (3 : Int) && decide (dgC (prn a) x.i ≥ (4 : Int))) = true → (10 : Nat) < [a (0 : Nat), a (1 : Nat), a (2 : Nat), a (3 : Nat), a (4 : Nat), a (5 : Nat), a (6 : Nat), a (7 : Nat), a (8 : Nat), a (9 : Nat), a (10 : Nat), a (11 : Nat), a (12 : Nat), a (13 : Nat), a (14 : Nat), a (15 : Nat)].length) ∧ ((ptC (prn a) x.i == (3 : Int) && dgC (prn a) x.i == (↑(prn a).size : Int) - (3 : Int) && decide (dgC (prn a) x.i ≥ (4 : Int)) && [a (0 : Nat), a (1 : Nat), a (2 : Nat), a (3 : Nat), a (4 : Nat), a (5 : Nat), a (6 : Nat), a (7 : Nat), a (8 : Nat), a (9 : Nat), a (10 : Nat), a (11 : Nat), a (12 : Nat), a (13 : Nat), a (14 : Nat), a (15 : Nat)].getD ((10 : Nat)) (0 : Int) == (255 : Int)) = true → (0 : Int) ≤ (11 : Int)) ∧ ((ptC (prn a) x.i == (3 : Int) && dgC (prn a) x.i == (↑(prn a).size : Int) - (3 : Int) && decide (dgC (prn a) x.i ≥ (4 : Int)) && [a (0 : Nat), a (1 : Nat), a (2 : Nat), a (3 : Nat), a (4 : Nat), a (5 : Nat), a (6 : Nat), a (7 : Nat), a (8 : Nat), a (9 : Nat), a (10 : Nat), a (11 : Nat), a (12 : Nat), a (13 : Nat), a (14 : Nat), a (15 : Nat)].getD ((10 : Nat)) (0 : Int) == (255 : Int)) = true → (11 : Int) < (↑(16 : Nat) : Int)) ∧ ((ptC (prn a) x.i == (3 : Int) && dgC (prn a) x.i == (↑(prn a).size : Int) - (3 : Int) && decide (dgC (prn a) x.i ≥ (4 : Int)) && [a (0 : Nat), a (1 : Nat), a (2 : Nat), a (3 : Nat), a (4 : Nat), a (5 : Nat), a (6 : Nat), a (7 : Nat), a (8 : Nat), a (9 : Nat), a (10 : Nat), a (11 : Nat), a (12 : Nat), a (13 : Nat), a (14 : Nat), a (15 : Nat)].getD ((10 : Nat)) (0 : Int) == (255 : Int)) = true → (11 : Nat) < [a (0 : Nat), a (1 : Nat), a (2 : Nat), a (3 : Nat), a (4 : Nat), a (5 : Nat), a (6 : Nat), a (7 : Nat), a (8 : Nat), a (9 : Nat), a (10 : Nat), a (11 : Nat), a (12 : Nat), a (13 : Nat), a (14 : Nat), a (15 : Nat)].length) ∧ (ptC (prn a) x.i == (3 : Int) && dgC (prn a) x.i == (↑(prn a).size : Int) - (3 : Int) && decide (dgC (prn a) x.i ≥ (4 : Int)) && [a (0 : Nat), a (1 : Nat), a (2 : Nat), a (3 : Nat), a (4 : Nat), a (5 : Nat), a (6 : Nat), a (7 : Nat), a (8 : Nat), a (9 : Nat), a (10 : Nat), a (11 : Nat), a (12 : Nat), a (13 : Nat), a (14 : Nat), a (15 : Nat)].getD ((10 : Nat)) (0 : Int) == (255 : Int) && [a (0 : Nat), a (1 : Nat), a (2 : Nat), a (3 : Nat), a (4 : Nat), a (5 : Nat), a (6 : Nat), a (7 : Nat), a (8 : Nat), a (9 : Nat), a (10 : Nat), a (11 : Nat), a (12 : Nat), a (13 : Nat), a (14 : Nat), a (15 : Nat)].getD ((11 : Nat)) (0 : Int) == (255 : Int)) = true)) ∧ ((is4 fun (i : Nat) => [a (0 : Nat), a (1 : Nat), a (2 : Nat), a (3 : Nat), a (4 : Nat), a (5 : Nat), a (6 : Nat), a (7 : Nat), a (8 : Nat), a (9 : Nat), a (10 : Nat), a (11 : Nat), a (12 : Nat), a (13 : Nat), a (14 : Nat), a (15 : Nat)].getD i (0 : Int)) = false → (∃ (x : (tx2 a).σ), x.i.le (prn a).size ∧ true = true ∧ XV.ptr (0 : Nat) (0 : Nat) (0 : Nat) (0 : Nat) = XV.ptr (0 : Nat) (0 : Nat) (0 : Nat) (0 : Nat) ∧ false = false ∧ (prn fun (i : Nat) => [a (0 : Nat), a (1 : Nat), a (2 : Nat), a (3 : Nat), a (4 : Nat), a (5 : Nat), a (6 : Nat), a (7 : Nat), a (8 : Nat), a (9 : Nat), a (10 : Nat), a (11 : Nat), a (12 : Nat), a (13 : Nat), a (14 : Nat), a (15 : Nat)].getD i (0 : Int)) = prn a ∧ (0 : Int) = gaC (prn a) x.i ∧ (0 : Int) = (0 : Int) ∧ (0 : Int) = coC (prn a) x.i ∧ (↑(prn fun (i : Nat) => [a (0 : Nat), a (1 : Nat), a (2 : Nat), a (3 : Nat), a (4 : Nat), a (5 : Nat), a (6 : Nat), a (7 : Nat), a (8 : Nat), a (9 : Nat), a (10 : Nat), a (11 : Nat), a (12 : Nat), a (13 : Nat), a (14 : Nat), a (15 : Nat)].getD i (0 : Int)).size : Int) = (↑(prn a).size : Int) ∧ (0 : Int) = (↑x.i : Int) ∧ (((23 : Nat) = (23 : TypeId) ∧ true = true) ∧ a (0 : Nat) = a (0 : Nat) ∧ a (1 : Nat) = a (1 : Nat) ∧ a (2 : Nat) = a (2 : Nat) ∧ a (3 : Nat) = a (3 : Nat) ∧ a (4 : Nat) = a (4 : Nat) ∧ a (5 : Nat) = a (5 : Nat) ∧ a (6 : Nat) = a (6 : Nat) ∧ a (7 : Nat) = a (7 : Nat) ∧ a (8 : Nat) = a (8 : Nat) ∧ a (9 : Nat) = a (9 : Nat) ∧ a (10 : Nat) = a (10 : Nat) ∧ a (11 : Nat) = a (11 : Nat) ∧ a (12 : Nat) = a (12 : Nat) ∧ a (13 : Nat) = a (13 : Nat) ∧ a (14 : Nat) = a (14 : Nat) ∧ a (15 : Nat) = a (15 : Nat) ∧ True) ∧ True) ∧ ∀ (x : IW), x.i.le (prn a).size → (decide ((↑x.i : Int) < (↑(prn a).size : Int)) = true → (0 : Int) ≤ (↑x.i : Int) ∧ (↑x.i : Int) < (↑(prn a).size : Int) ∧ ((sbyte (prn a) (↑x.i : Int) == (58 : Int)) = true → in64 (coC (prn a) x.i + (1 : Int)) ∧ (decide ((↑x.i : Int) > (0 : Int)) = true → in64 ((↑x.i : Int) - (1 : Int))) ∧ (decide ((↑x.i : Int) > (0 : Int)) = true → (0 : Int) ≤ (↑x.i : Int) - (1 : Int)) ∧ (decide ((↑x.i : Int) > (0 : Int)) = true → (↑x.i : Int) - (1 : Int) < (↑(prn a).size : Int)) ∧ ((decide ((↑x.i : Int) > (0 : Int)) && sbyte (prn a) ((↑x.i : Int) - (1 : Int)) == (58 : Int)) = true → in64 (gaC (prn a) x.i + (1 : Int)) ∧ ((sbyte (prn a) (↑x.i : Int) == (48 : Int)) = true → (sbyte (prn a) (↑x.i : Int) == (48 : Int)) = true) ∧ ((sbyte (prn a) (↑x.i : Int) == (48 : Int)) = true → (sbyte (prn a) (↑x.i : Int) == (48 : Int)) = true) ∧ ((sbyte (prn a) (↑x.i : Int) == (48 : Int) && !(↑x.i : Int) == (0 : Int)) = true → in64 ((↑x.i : Int) - (1 : Int))) ∧ ((sbyte (prn a) (↑x.i : Int) == (48 : Int) && !(↑x.i : Int) == (0 : Int)) = true → (0 : Int) ≤ (↑x.i : Int) - (1 : Int)) ∧ ((sbyte (prn a) (↑x.i : Int) == (48 : Int) && !(↑x.i : Int) == (0 : Int)) = true → (↑x.i : Int) - (1 : Int) < (↑(prn a).size : Int)) ∧ ((sbyte (prn a) (↑x.i : Int) == (48 : Int)) = true → (sbyte (prn a) (↑x.i : Int) == (48 : Int)) = true) ∧ ((sbyte (prn a) (↑x.i : Int) == (48 : Int)) = true → (sbyte (prn a) (↑x.i : Int) == (48 : Int)) = true) ∧ ((sbyte (prn a) (↑x.i : Int) == (48 : Int) && ((↑x.i : Int) == (0 : Int) || sbyte (prn a) ((↑x.i : Int) - (1 : Int)) == (58 : Int))) = true → in64 ((↑x.i : Int) + (1 : Int))) ∧ ((sbyte (prn a) (↑x.i : Int) == (48 : Int) && ((↑x.i : Int) == (0 : Int) || sbyte (prn a) ((↑x.i : Int) - (1 : Int)) == (58 : Int)) && decide ((↑x.i : Int) + (1 : Int) < (↑(prn a).size : Int))) = true → in64 ((↑x.i : Int) + (1 : Int))) ∧ ((sbyte (prn a) (↑x.i : Int) == (48 : Int) && ((↑x.i : Int) == (0 : Int) || sbyte (prn a) ((↑x.i : Int) - (1 : Int)) == (58 : Int)) && decide ((↑x.i : Int) + (1 : Int) < (↑(prn a).size : Int))) = true → (0 : Int) ≤ (↑x.i : Int) + (1 : Int)) ∧ ((sbyte (prn a) (↑x.i : Int) == (48 : Int) && ((↑x.i : Int) == (0 : Int) || sbyte (prn a) ((↑x.i : Int) - (1 : Int)) == (58 : Int)) && decide ((↑x.i : Int) + (1 : Int) < (↑(prn a).size : Int))) = true → (↑x.i : Int) + (1 : Int) < (↑(prn a).size : Int)) ∧ ((sbyte (prn a) (↑x.i : Int) == (48 : Int) && ((↑x.i : Int) == (0 : Int) || sbyte (prn a) ((↑x.i : Int) - (1 : Int)) == (58 : Int)) && decide ((↑x.i : Int) + (1 : Int) < (↑(prn a).size : Int)) && sbyte (prn a) ((↑x.i : Int) + (1 : Int)) != (58 : Int)) = true → false = true) ∧ ((sbyte (prn a) (↑x.i : Int) == (48 : Int) && ((↑x.i : Int) == (0 : Int) || sbyte (prn a) ((↑x.i : Int) - (1 : Int)) == (58 : Int)) && decide ((↑x.i : Int) + (1 : Int) < (↑(prn a).size : Int)) && sbyte (prn a) ((↑x.i : Int) + (1 : Int)) != (58 : Int)) = false → in64 ((↑x.i : Int) + (1 : Int)) ∧ ∃ (x' : (tx2 a).σ), x'.i.le (prn a).size ∧ (prn a).size - x'.i < (prn a).size - x.i ∧ true = true ∧ XV.ptr (0 : Nat) (0 : Nat) (0 : Nat) (0 : Nat) = XV.ptr (0 : Nat) (0 : Nat) (0 : Nat) (0 : Nat) ∧ false = false ∧ prn a = prn a ∧ gaC (prn a) x.i + (1 : Int) = gaC (prn a) x'.i ∧ (0 : Int) = (0 : Int) ∧ coC (prn a) x.i + (1 : Int) = coC (prn a) x'.i ∧ (↑(prn a).size : Int) = (↑(prn a).size : Int) ∧ (↑x.i : Int) + (1 : Int) = (↑x'.i : Int) ∧ (((23 : TypeId) = (23 : TypeId) ∧ true = true) ∧ a (0 : Nat) = a (0 : Nat) ∧ a (1 : Nat) = a (1 : Nat) ∧ a (2 : Nat) = a (2 : Nat) ∧ a (3 : Nat) = a (3 : Nat) ∧ a (4 : Nat) = a (4 : Nat) ∧ a (5 : Nat) = a (5 : Nat) ∧ a (6 : Nat) = a (6 : Nat) ∧ a (7 : Nat) = a (7 : Nat) ∧ a (8 : Nat) = a (8 : Nat) ∧ a (9 : Nat) = a (9 : Nat) ∧ a (10 : Nat) = a (10 : Nat) ∧ a (11 : Nat) = a (11 : Nat) ∧ a (12 : Nat) = a (12 : Nat) ∧ a (13 : Nat) = a (13 : Nat) ∧ a (14 : Nat) = a (14 : Nat) ∧ a (15 : Nat) = a (15 : Nat) ∧ True) ∧ True)) ∧ ((decide ((↑x.i : Int) > (0 : Int)) && sbyte (prn a) ((↑x.i : Int) - (1 : Int)) == (58 : Int)) = false → ((sbyte (prn a) (↑x.i : Int) == (48 : Int)) = true → (sbyte (prn a) (↑x.i : Int) == (48 : Int)) = true) ∧ ((sbyte (prn a) (↑x.i : Int) == (48 : Int)) = true → (sbyte (prn a) (↑x.i : Int) == (48 : Int)) = true) ∧ ((sbyte (prn a) (↑x.i : Int) == (48 : Int) && !(↑x.i : Int) == (0 : Int)) = true → in64 ((↑x.i : Int) - (1 : Int))) ∧ ((sbyte (prn a) (↑x.i : Int) == (48 : Int) && !(↑x.i : Int) == (0 : Int)) = true → (0 : Int) ≤ (↑x.i : Int) - (1 : Int)) ∧ ((sbyte (prn a) (↑x.i : Int) == (48 : Int) && !(↑x.i : Int) == (0 : Int)) = true → (↑x.i : Int) - (1 : Int) < (↑(prn a).size : Int)) ∧ ((sbyte (prn a) (↑x.i : Int) == (48 : Int)) = true → (sbyte (prn a) (↑x.i : Int) == (48 : Int)) = true) ∧ ((sbyte (prn a) (↑x.i : Int) == (48 : Int)) = true → (sbyte (prn a) (↑x.i : Int) == (48 : Int)) = true) ∧ ((sbyte (prn a) (↑x.i : Int) == (48 : Int) && ((↑x.i : Int) == (0 : Int) || sbyte (prn a) ((↑x.i : Int) - (1 : Int)) == (58 : Int))) = true → in64 ((↑x.i : Int) + (1 : Int))) ∧ ((sbyte (prn a) (↑x.i : Int) == (48 : Int) && ((↑x.i : Int) == (0 : Int) || sbyte (prn a) ((↑x.i : Int) - (1 : Int)) == (58 : Int)) && decide ((↑x.i : Int) + (1 : Int) < (↑(prn a).size : Int))) = true → in64 ((↑x.i : Int) + (1 : Int))) ∧ ((sbyte (prn a) (↑x.i : Int) == (48 : Int) && ((↑x.i : Int) == (0 : Int) || sbyte (prn a) ((↑x.i : Int) - (1 : Int)) == (58 : Int)) && decide ((↑x.i : Int) + (1 : Int) < (↑(prn a).size : Int))) = true → (0 : Int) ≤ (↑x.i : Int) + (1 : Int)) ∧ ((sbyte (prn a) (↑x.i : Int) == (48 : Int) && ((↑x.i : Int) == (0 : Int) || sbyte (prn a) ((↑x.i : Int) - (1 : Int)) == (58 : Int)) && decide ((↑x.i : Int) + (1 : Int) < (↑(prn a).size : Int))) = true → (↑x.i : Int) + (1 : Int) < (↑(prn a).size : Int)) ∧ ((sbyte (prn a) (↑x.i : Int) == (48 : Int) && ((↑x.i : Int) == (0 : Int) || sbyte (prn a) ((↑x.i : Int) - (1 : Int)) == (58 : Int)) && decide ((↑x.i : Int) + (1 : Int) < (↑(prn a).size : Int)) && sbyte (prn a) ((↑x.i : Int) + (1 : Int)) != (58 : Int)) = true → false = true) ∧ ((sbyte (prn a) (↑x.i : Int) == (48 : Int) && ((↑x.i : Int) == (0 : Int) || sbyte (prn a) ((↑x.i : Int) - (1 : Int)) == (58 : Int)) && decide ((↑x.i : Int) + (1 : Int) < (↑(prn a).size : Int)) && sbyte (prn a) ((↑x.i : Int) + (1 : Int)) != (58 : Int)) = false → in64 ((↑x.i : Int) + (1 : Int)) ∧ ∃ (x' : (tx2 a).σ), x'.i.le (prn a).size ∧ (prn a).size - x'.i < (prn a).size - x.i ∧ true = true ∧ XV.ptr (0 : Nat) (0 : Nat) (0 : Nat) (0 : Nat) = XV.ptr (0 : Nat) (0 : Nat) (0 : Nat) (0 : Nat) ∧ false = false ∧ prn a = prn a ∧ gaC (prn a) x.i = gaC (prn a) x'.i ∧ (0 : Int) = (0 : Int) ∧ coC (prn a) x.i + (1 : Int) = coC (prn a) x'.i ∧ (↑(prn a).size : Int) = (↑(prn a).size : Int) ∧ (↑x.i : Int) + (1 : Int) = (↑x'.i : Int) ∧ (((23 : TypeId) = (23 : TypeId) ∧ true = true) ∧ a (0 : Nat) = a (0 : Nat) ∧ a (1 : Nat) = a (1 : Nat) ∧ a (2 : Nat) = a (2 : Nat) ∧ a (3 : Nat) = a (3 : Nat) ∧ a (4 : Nat) = a (4 : Nat) ∧ a (5 : Nat) = a (5 : Nat) ∧ a (6 : Nat) = a (6 : Nat) ∧ a (7 : Nat) = a (7 : Nat) ∧ a (8 : Nat) = a (8 : Nat) ∧ a (9 : Nat) = a (9 : Nat) ∧ a (10 : Nat) = a (10 : Nat) ∧ a (11 : Nat) = a (11 : Nat) ∧ a (12 : Nat) = a (12 : Nat) ∧ a (13 : Nat) = a (13 : Nat) ∧ a (14 : Nat) = a (14 : Nat) ∧ a (15 : Nat) = a (15 : Nat) ∧ True) ∧ True))) ∧ ((sbyte (prn a) (↑x.i : Int) == (58 : Int)) = false → (((decide (sbyte (prn a) (↑x.i : Int) < (48 : Int)) || decide (sbyte (prn a) (↑x.i : Int) > (57 : Int))) && (decide (sbyte (prn a) (↑x.i : Int) < (97 : Int)) || decide (sbyte (prn a) (↑x.i : Int) > (102 : Int)))) = true → false = true) ∧ (((decide (sbyte (prn a) (↑x.i : Int) < (48 : Int)) || decide (sbyte (prn a) (↑x.i : Int) > (57 : Int))) && (decide (sbyte (prn a) (↑x.i : Int) < (97 : Int)) || decide (sbyte (prn a) (↑x.i : Int) > (102 : Int)))) = false → ((sbyte (prn a) (↑x.i : Int) == (48 : Int) && !(↑x.i : Int) == (0 : Int)) = true → in64 ((↑x.i : Int) - (1 : Int))) ∧ ((sbyte (prn a) (↑x.i : Int) == (48 : Int) && !(↑x.i : Int) == (0 : Int)) = true → (0 : Int) ≤ (↑x.i : Int) - (1 : Int)) ∧ ((sbyte (prn a) (↑x.i : Int) == (48 : Int) && !(↑x.i : Int) == (0 : Int)) = true → (↑x.i : Int) - (1 : Int) < (↑(prn a).size : Int)) ∧ ((sbyte (prn a) (↑x.i : Int) == (48 : Int) && ((↑x.i : Int) == (0 : Int) || sbyte (prn a) ((↑x.i : Int) - (1 : Int)) == (58 : Int))) = true → in64 ((↑x.i : Int) + (1 : Int))) ∧ ((sbyte (prn a) (↑x.i : Int) == (48 : Int) && ((↑x.i : Int) == (0 : Int) || sbyte (prn a) ((↑x.i : Int) - (1 : Int)) == (58 : Int)) && decide ((↑x.i : Int) + (1 : Int) < (↑(prn a).size : Int))) = true → in64 ((↑x.i : Int) + (1 : Int))) ∧ ((sbyte (prn a) (↑x.i : Int) == (48 : Int) && ((↑x.i : Int) == (0 : Int) || sbyte (prn a) ((↑x.i : Int) - (1 : Int)) == (58 : Int)) && decide ((↑x.i : Int) + (1 : Int) < (↑(prn a).size : Int))) = true → (0 : Int) ≤ (↑x.i : Int) + (1 : Int)) ∧ ((sbyte (prn a) (↑x.i : Int) == (48 : Int) && ((↑x.i : Int) == (0 : Int) || sbyte (prn a) ((↑x.i : Int) - (1 : Int)) == (58 : Int)) && decide ((↑x.i : Int) + (1 : Int) < (↑(prn a).size : Int))) = true → (↑x.i : Int) + (1 : Int) < (↑(prn a).size : Int)) ∧ ((sbyte (prn a) (↑x.i : Int) == (48 : Int) && ((↑x.i : Int) == (0 : Int) || sbyte (prn a) ((↑x.i : Int) - (1 : Int)) == (58 : Int)) && decide ((↑x.i : Int) + (1 : Int) < (↑(prn a).size : Int)) && sbyte (prn a) ((↑x.i : Int) + (1 : Int)) != (58 : Int)) = true → false = true) ∧ ((sbyte (prn a) (↑x.i : Int) == (48 : Int) && ((↑x.i : Int) == (0 : Int) || sbyte (prn a) ((↑x.i : Int) - (1 : Int)) == (58 : Int)) && decide ((↑x.i : Int) + (1 : Int) < (↑(prn a).size : Int)) && sbyte (prn a) ((↑x.i : Int) + (1 : Int)) != (58 : Int)) = false → in64 ((↑x.i : Int) + (1 : Int)) ∧ ∃ (x' : (tx2 a).σ), x'.i.le (prn a).size ∧ (prn a).size - x'.i < (prn a).size - x.i ∧ true = true ∧ XV.ptr (0 : Nat) (0 : Nat) (0 : Nat) (0 : Nat) = XV.ptr (0 : Nat) (0 : Nat) (0 : Nat) (0 : Nat) ∧ false = false ∧ prn a = prn a ∧ gaC (prn a) x.i = gaC (prn a) x'.i ∧ (0 : Int) = (0 : Int) ∧ coC (prn a) x.i = coC (prn a) x'.i ∧ (↑(prn a).size : Int) = (↑(prn a).size : Int) ∧ (↑x.i : Int) + (1 : Int) = (↑x'.i : Int) ∧ (((23 : TypeId) = (23 : TypeId) ∧ true = true) ∧ a (0 : Nat) = a (0 : Nat) ∧ a (1 : Nat) = a (1 : Nat) ∧ a (2 : Nat) = a (2 : Nat) ∧ a (3 : Nat) = a (3 : Nat) ∧ a (4 : Nat) = a (4 : Nat) ∧ a (5 : Nat) = a (5 : Nat) ∧ a (6 : Nat) = a (6 : Nat) ∧ a (7 : Nat) = a (7 : Nat) ∧ a (8 : Nat) = a (8 : Nat) ∧ a (9 : Nat) = a (9 : Nat) ∧ a (10 : Nat) = a (10 : Nat) ∧ a (11 : Nat) = a (11 : Nat) ∧ a (12 : Nat) = a (12 : Nat) ∧ a (13 : Nat) = a (13 : Nat) ∧ a (14 : Nat) = a (14 : Nat) ∧ a (15 : Nat) = a (15 : Nat) ∧ True) ∧ True)))) ∧ (decide ((↑x.i : Int) < (↑(prn a).size : Int)) = false → (∃ (x_1 : (tx4 a).σ), x_1.i.le (7 : Nat) ∧ true = true ∧ XV.ptr (0 : Nat) (0 : Nat) (0 : Nat) (0 : Nat) = XV.ptr (0 : Nat) (0 : Nat) (0 : Nat) (0 : Nat) ∧ false = false ∧ prn a = prn a ∧ gaC (prn a) x.i = gaC (prn a) (prn a).size ∧ (0 : Int) = zeC a x_1.i ∧ coC (prn a) x.i = coC (prn a) (prn a).size ∧ (0 : Int) = (↑x_1.i : Int) ∧ (((23 : TypeId) = (23 : TypeId) ∧ true = true) ∧ a (0 : Nat) = a (0 : Nat) ∧ a (1 : Nat) = a (1 : Nat) ∧ a (2 : Nat) = a (2 : Nat) ∧ a (3 : Nat) = a (3 : Nat) ∧ a (4 : Nat) = a (4 : Nat) ∧ a (5 : Nat) = a (5 : Nat) ∧ a (6 : Nat) = a (6 : Nat) ∧ a (7 : Nat) = a (7 : Nat) ∧ a (8 : Nat) = a (8 : Nat) ∧ a (9 : Nat) = a (9 : Nat) ∧ a (10 : Nat) = a (10 : Nat) ∧ a (11 : Nat) = a (11 : Nat) ∧ a (12 : Nat) = a (12 : Nat) ∧ a (13 : Nat) = a (13 : Nat) ∧ a (14 : Nat) = a (14 : Nat) ∧ a (15 : Nat) = a (15 : Nat) ∧ True) ∧ True) ∧ ∀ (x : IW), x.i.le (7 : Nat) → (decide ((↑x.i : Int) < (7 : Int)) = true → in64 ((2 : Int) * (↑x.i : Int)) ∧ (0 : Int) ≤ (2 : Int) * (↑x.i : Int) ∧ (2 : Int) * (↑x.i : Int) < (↑(16 : Nat) : Int) ∧ ((2 : Int) * (↑x.i : Int)).toNat < [a (0 : Nat), a (1 : Nat), a (2 : Nat), a (3 : Nat), a (4 : Nat), a (5 : Nat), a (6 : Nat), a (7 : Nat), a (8 : Nat), a (9 : Nat), a (10 : Nat), a (11 : Nat), a (12 : Nat), a (13 : Nat), a (14 : Nat), a (15 : Nat)].length ∧ (([a (0 : Nat), a (1 : Nat), a (2 : Nat), a (3 : Nat), a (4 : Nat), a (5 : Nat), a (6 : Nat), a (7 : Nat), a (8 : Nat), a (9 : Nat), a (10 : Nat), a (11 : Nat), a (12 : Nat), a (13 : Nat), a (14 : Nat), a (15 : Nat)].getD ((2 : Int) * (↑x.i : Int)).toNat (0 : Int) == (0 : Int)) = true → in64 ((2 : Int) * (↑x.i : Int))) ∧ (([a (0 : Nat), a (1 : Nat), a (2 : Nat), a (3 : Nat), a (4 : Nat), a (5 : Nat), a (6 : Nat), a (7 : Nat), a (8 : Nat), a (9 : Nat), a (10 : Nat), a (11 : Nat), a (12 : Nat), a (13 : Nat), a (14 : Nat), a (15 : Nat)].getD ((2 : Int) * (↑x.i : Int)).toNat (0 : Int) == (0 : Int)) = true → in64 ((2 : Int) * (↑x.i : Int) + (1 : Int))) ∧ (([a (0 : Nat), a (1 : Nat), a (2 : Nat), a (3 : Nat), a (4 : Nat), a (5 : Nat), a (6 : Nat), a (7 : Nat), a (8 : Nat), a (9 : Nat), a (10 : Nat), a (11 : Nat), a (12 : Nat), a (13 : Nat), a (14 : Nat), a (15 : Nat)].getD ((2 : Int) * (↑x.i : Int)).toNat (0 : Int) == (0 : Int)) = true → (0 : Int) ≤ (2 : Int) * (↑x.i : Int) + (1 : Int)) ∧ (([a (0 : Nat), a (1 : Nat), a (2 : Nat), a (3 : Nat), a (4 : Nat), a (5 : Nat), a (6 : Nat), a (7 : Nat), a (8 : Nat), a (9 : Nat), a (10 : Nat), a (11 : Nat), a (12 : Nat), a (13 : Nat), a (14 : Nat), a (15 : Nat)].getD ((2 : Int) * (↑x.i : Int)).toNat (0 : Int) == (0 : Int)) = true → (2 : Int) * (↑x.i : Int) + (1 : Int) < (↑(16 : Nat) : Int)) ∧ (([a (0 : Nat), a (1 : Nat), a (2 : Nat), a (3 : Nat), a (4 : Nat), a (5 : Nat), a (6 : Nat), a (7 : Nat), a (8 : Nat), a (9 : Nat), a (10 : Nat), a (11 : Nat), a (12 : Nat), a (13 : Nat), a (14 : Nat), a (15 : Nat)].getD ((2 : Int) * (↑x.i : Int)).toNat (0 : Int) == (0 : Int)) = true → ((2 : Int) * (↑x.i : Int) + (1 : Int)).toNat < [a (0 : Nat), a (1 : Nat), a (2 : Nat), a (3 : Nat), a (4 : Nat), a (5 : Nat), a (6 : Nat), a (7 : Nat), a (8 : Nat), a (9 : Nat), a (10 : Nat), a (11 : Nat), a (12 : Nat), a (13 : Nat), a (14 : Nat), a (15 : Nat)].length) ∧ (([a (0 : Nat), a (1 : Nat), a (2 : Nat), a (3 : Nat), a (4 : Nat), a (5 : Nat), a (6 : Nat), a (7 : Nat), a (8 : Nat), a (9 : Nat), a (10 : Nat), a (11 : Nat), a (12 : Nat), a (13 : Nat), a (14 : Nat), a (15 : Nat)].getD ((2 : Int) * (↑x.i : Int)).toNat (0 : Int) == (0 : Int) && [a (0 : Nat), a (1 : Nat), a (2 : Nat), a (3 : Nat), a (4 : Nat), a (5 : Nat), a (6 : Nat), a (7 : Nat), a (8 : Nat), a (9 : Nat), a (10 : Nat), a (11 : Nat), a (12 : Nat), a (13 : Nat), a (14 : Nat), a (15 : Nat)].getD ((2 : Int) * (↑x.i : Int) + (1 : Int)).toNat (0 : Int) == (0 : Int)) = true → in64 ((2 : Int) * (↑x.i : Int))) ∧ (([a (0 : Nat), a (1 : Nat), a (2 : Nat), a (3 : Nat), a (4 : Nat), a (5 : Nat), a (6 : Nat), a (7 : Nat), a (8 : Nat), a (9 : Nat), a (10 : Nat), a (11 : Nat), a (12 : Nat), a (13 : Nat), a (14 : Nat), a (15 : Nat)].getD ((2 : Int) * (↑x.i : Int)).toNat (0 : Int) == (0 : Int) && [a (0 : Nat), a (1 : Nat), a (2 : Nat), a (3 : Nat), a (4 : Nat), a (5 : Nat), a (6 : Nat), a (7 : Nat), a (8 : Nat), a (9 : Nat), a (10 : Nat), a (11 : Nat), a (12 : Nat), a (13 : Nat), a (14 : Nat), a (15 : Nat)].getD ((2 : Int) * (↑x.i : Int) + (1 : Int)).toNat (0 : Int) == (0 : Int)) = true → in64 ((2 : Int) * (↑x.i : Int) + (2 : Int))) ∧ (([a (0 : Nat), a (1 : Nat), a (2 : Nat), a (3 : Nat), a (4 : Nat), a (5 : Nat), a (6 : Nat), a (7 : Nat), a (8 : Nat), a (9 : Nat), a (10 : Nat), a (11 : Nat), a (12 : Nat), a (13 : Nat), a (14 : Nat), a (15 : Nat)].getD ((2 : Int) * (↑x.i : Int)).toNat (0 : Int) == (0 : Int) && [a (0 : Nat), a (1 : Nat), a (2 : Nat), a (3 : Nat), a (4 : Nat), a (5 : Nat), a (6 : Nat), a (7 : Nat), a (8 : Nat), a (9 : Nat), a (10 : Nat), a (11 : Nat), a (12 : Nat), a (13 : Nat), a (14 : Nat), a (15 : Nat)].getD ((2 : Int) * (↑x.i : Int) + (1 : Int)).toNat (0 : Int) == (0 : Int)) = true → (0 : Int) ≤ (2 : Int) * (↑x.i : Int) + (2 : Int)) ∧ (([a (0 : Nat), a (1 : Nat), a (2 : Nat), a (3 : Nat), a (4 : Nat), a (5 : Nat), a (6 : Nat), a (7 : Nat), a (8 : Nat), a (9 : Nat), a (10 : Nat), a (11 : Nat), a (12 : Nat), a (13 : Nat), a (14 : Nat), a (15 : Nat)].getD ((2 : Int) * (↑x.i : Int)).toNat (0 : Int) == (0 : Int) && [a (0 : Nat), a (1 : Nat), a (2 : Nat), a (3 : Nat), a (4 : Nat), a (5 : Nat), a (6 : Nat), a (7 : Nat), a (8 : Nat), a (9 : Nat), a (10 : Nat), a (11 : Nat), a (12 : Nat), a (13 : Nat), a (14 : Nat), a (15 : Nat)].getD ((2 : Int) * (↑x.i : Int) + (1 : Int)).toNat (0 : Int) == (0 : Int)) = true → (2 : Int) * (↑x.i : Int) + (2 : Int) < (↑(16 : Nat) : Int)) ∧ (([a (0 : Nat), a (1 : Nat), a (2 : Nat), a (3 : Nat), a (4 : Nat), a (5 : Nat), a (6 : Nat), a (7 : Nat), a (8 : Nat), a (9 : Nat), a (10 : Nat), a (11 : Nat), a (12 : Nat), a (13 : Nat), a (14 : Nat), a (15 : Nat)].getD ((2 : Int) * (↑x.i : Int)).toNat (0 : Int) == (0 : Int) && [a (0 : Nat), a (1 : Nat), a (2 : Nat), a (3 : Nat), a (4 : Nat), a (5 : Nat), a (6 : Nat), a (7 : Nat), a (8 : Nat), a (9 : Nat), a (10 : Nat), a (11 : Nat), a (12 : Nat), a (13 : Nat), a (14 : Nat), a (15 : Nat)].getD ((2 : Int) * (↑x.i : Int) + (1 : Int)).toNat (0 : Int) == (0 : Int)) = true → ((2 : Int) * (↑x.i : Int) + (2 : Int)).toNat < [a (0 : Nat), a (1 : Nat), a (2 : Nat), a (3 : Nat), a (4 : Nat), a (5 : Nat), a (6 : Nat), a (7 : Nat), a (8 : Nat), a (9 : Nat), a (10 : Nat), a (11 : Nat), a (12 : Nat), a (13 : Nat), a (14 : Nat), a (15 : Nat)].length) ∧ (([a (0 : Nat), a (1 : Nat), a (2 : Nat), a (3 : Nat), a (4 : Nat), a (5 : Nat), a (6 : Nat), a (7 : Nat), a (8 : Nat), a (9 : Nat), a (10 : Nat), a (11 : Nat), a (12 : Nat), a (13 : Nat), a (14 : Nat), a (15 : Nat)].getD ((2 : Int) * (↑x.i : Int)).toNat (0 : Int) == (0 : Int) && [a (0 : Nat), a (1 : Nat), a (2 : Nat), a (3 : Nat), a (4 : Nat), a (5 : Nat), a (6 : Nat), a (7 : Nat), a (8 : Nat), a (9 : Nat), a (10 : Nat), a (11 : Nat), a (12 : Nat), a (13 : Nat), a (14 : Nat), a (15 : Nat)].getD ((2 : Int) * (↑x.i : Int) + (1 : Int)).toNat (0 : Int) == (0 : Int) && [a (0 : Nat), a (1 : Nat), a (2 : Nat), a (3 : Nat), a (4 : Nat), a (5 : Nat), a (6 : Nat), a (7 : Nat), a (8 : Nat), a (9 : Nat), a (10 : Nat), a (11 : Nat), a (12 : Nat), a (13 : Nat), a (14 : Nat), a (15 : Nat)].getD ((2 : Int) * (↑x.i : Int) + (2 : Int)).toNat (0 : Int) == (0 : Int)) = true → in64 ((2 : Int) * (↑x.i : Int))) ∧ (([a (0 : Nat), a (1 : Nat), a (2 : Nat), a (3 : Nat), a (4 : Nat), a (5 : Nat), a (6 : Nat), a (7 : Nat), a (8 : Nat), a (9 : Nat), a (10 : Nat), a (11 : Nat), a (12 : Nat), a (13 : Nat), a (14 : Nat), a (15 : Nat)].getD ((2 : Int) * (↑x.i : Int)).toNat (0 : Int) == (0 : Int) && [a (0 : Nat), a (1 : Nat), a (2 : Nat), a (3 : Nat), a (4 : Nat), a (5 : Nat), a (6 : Nat), a (7 : Nat), a (8 : Nat), a (9 : Nat), a (10 : Nat), a (11 : Nat), a (12 : Nat), a (13 : Nat), a (14 : Nat), a (15 : Nat)].getD ((2 : Int) * (↑x.i : Int) + (1 : Int)).toNat (0 : Int) == (0 : Int) && [a (0 : Nat), a (1 : Nat), a (2 : Nat), a (3 : Nat), a (4 : Nat), a (5 : Nat), a (6 : Nat), a (7 : Nat), a (8 : Nat), a (9 : Nat), a (10 : Nat), a (11 : Nat), a (12 : Nat), a (13 : Nat), a (14 : Nat), a (15 : Nat)].getD ((2 : Int) * (↑x.i : Int) + (2 : Int)).toNat (0 : Int) == (0 : Int)) = true → in64 ((2 : Int) * (↑x.i : Int) + (3 : Int))) ∧ (([a (0 : Nat), a (1 : Nat), a (2 : Nat), a (3 : Nat), a (4 : Nat), a (5 : Nat), a (6 : Nat), a (7 : Nat), a (8 : Nat), a (9 : Nat), a (10 : Nat), a (11 : Nat), a (12 : Nat), a (13 : Nat), a (14 : Nat), a (15 : Nat)].getD ((2 : Int) * (↑x.i : Int)).toNat (0 : Int) == (0 : Int) && [a (0 : Nat), a (1 : Nat), a (2 : Nat), a (3 : Nat), a (4 : Nat), a (5 : Nat), a (6 : Nat), a (7 : Nat), a (8 : Nat), a (9 : Nat), a (10 : Nat), a (11 : Nat), a (12 : Nat), a (13 : Nat), a (14 : Nat), a (15 : Nat)].getD ((2 : Int) * (↑x.i : Int) + (1 : Int)).toNat (0 : Int) == (0 : Int) && [a (0 : Nat), a (1 : Nat), a (2 : Nat), a (3 : Nat), a (4 : Nat), a (5 : Nat), a (6 : Nat), a (7 : Nat), a (8 : Nat), a (9 : Nat), a (10 : Nat), a (11 : Nat), a (12 : Nat), a (13 : Nat), a (14 : Nat), a (15 : Nat)].getD ((2 : Int) * (↑x.i : Int) + (2 : Int)).toNat (0 : Int) == (0 : Int)) = true → (0 : Int) ≤ (2 : Int) * (↑x.i : Int) + (3 : Int)) ∧ (([a (0 : Nat), a (1 : Nat), a (2 : Nat), a (3 : Nat), a (4 : Nat), a (5 : Nat), a (6 : Nat), a (7 : Nat), a (8 : Nat), a (9 : Nat), a (10 : Nat), a (11 : Nat), a (12 : Nat), a (13 : Nat), a (14 : Nat), a (15 : Nat)].getD ((2 : Int) * (↑x.i : Int)).toNat (0 : Int) == (0 : Int) && [a (0 : Nat), a (1 : Nat), a (2 : Nat), a (3 : Nat), a (4 : Nat), a (5 : Nat), a (6 : Nat), a (7 : Nat), a (8 : Nat), a (9 : Nat), a (10 : Nat), a (11 : Nat), a (12 : Nat), a (13 : Nat), a (14 : Nat), a (15 : Nat)].getD ((2 : Int) * (↑x.i : Int) + (1 : Int)).toNat (0 : Int) == (0 : Int) && [a (0 : Nat), a (1 : Nat), a (2 : Nat), a (3 : Nat), a (4 : Nat), a (5 : Nat), a (6 : Nat), a (7 : Nat), a (8 : Nat), a (9 : Nat), a (10 : Nat), a (11 : Nat), a (12 : Nat), a (13 : Nat), a (14 : Nat), a (15 : Nat)].getD ((2 : Int) * (↑x.i : Int) + (2 : Int)).toNat (0 : Int) == (0 : Int)) = true → (2 : Int) * (↑x.i : Int) + (3 : Int) < (↑(16 : Nat) : Int)) ∧ (([a (0 : Nat), a (1 : Nat), a (2 : Nat), a (3 : Nat), a (4 : Nat), a (5 : Nat), a (6 : Nat), a (7 : Nat), a (8 : Nat), a (9 : Nat), a (10 : Nat), a (11 : Nat), a (12 : Nat), a (13 : Nat), a (14 : Nat), a (15 : Nat)].getD ((2 : Int) * (↑x.i : Int)).toNat (0 : Int) == (0 : Int) && [a (0 : Nat), a (1 : Nat), a (2 : Nat), a (3 : Nat), a (4 : Nat), a (5 : Nat), a (6 : Nat), a (7 : Nat), a (8 : Nat), a (9 : Nat), a (10 : Nat), a (11 : Nat), a (12 : Nat), a (13 : Nat), a (14 : Nat), a (15 : Nat)].getD ((2 : Int) * (↑x.i : Int) + (1 : Int)).toNat (0 : Int) == (0 : Int) && [a (0 : Nat), a (1 : Nat), a (2 : Nat), a (3 : Nat), a (4 : Nat), a (5 : Nat), a (6 : Nat), a (7 : Nat), a (8 : Nat), a (9 : Nat), a (10 : Nat), a (11 : Nat), a (12 : Nat), a (13 : Nat), a (14 : Nat), a (15 : Nat)].getD ((2 : Int) * (↑x.i : Int) + (2 : Int)).toNat (0 : Int) == (0 : Int)) = true → ((2 : Int) * (↑x.i : Int) + (3 : Int)).toNat < [a (0 : Nat), a (1 : Nat), a (2 : Nat), a (3 : Nat), a (4 : Nat), a (5 : Nat), a (6 : Nat), a (7 : Nat), a (8 : Nat), a (9 : Nat), a (10 : Nat), a (11 : Nat), a (12 : Nat), a (13 : Nat), a (14 : Nat), a (15 : Nat)].length) ∧ (([a (0 : Nat), a (1 : Nat), a (2 : Nat), a (3 : Nat), a (4 : Nat), a (5 : Nat), a (6 : Nat), a (7 : Nat), a (8 : Nat), a (9 : Nat), a (10 : Nat), a (11 : Nat), a (12 : Nat), a (13 : Nat), a (14 : Nat), a (15 : Nat)].getD ((2 : Int) * (↑x.i : Int)).toNat (0 : Int) == (0 : Int) && [a (0 : Nat), a (1 : Nat), a (2 : Nat), a (3 : Nat), a (4 : Nat), a (5 : Nat), a (6 : Nat), a (7 : Nat), a (8 : Nat), a (9 : Nat), a (10 : Nat), a (11 : Nat), a (12 : Nat), a (13 : Nat), a (14 : Nat), a (15 : Nat)].getD ((2 : Int) * (↑x.i : Int) + (1 : Int)).toNat (0 : Int) == (0 : Int) && [a (0 : Nat), a (1 : Nat), a (2 : Nat), a (3 : Nat), a (4 : Nat), a (5 : Nat), a (6 : Nat), a (7 : Nat), a (8 : Nat), a (9 : Nat), a (10 : Nat), a (11 : Nat), a (12 : Nat), a (13 : Nat), a (14 : Nat), a (15 : Nat)].getD ((2 : Int) * (↑x.i : Int) + (2 : Int)).toNat (0 : Int) == (0 : Int) && [a (0 : Nat), a (1 : Nat), a (2 : Nat), a (3 : Nat), a (4 : Nat), a (5 : Nat), a (6 : Nat), a (7 : Nat), a (8 : Nat), a (9 : Nat), a (10 : Nat), a (11 : Nat), a (12 : Nat), a (13 : Nat), a (14 : Nat), a (15 : Nat)].getD ((2 : Int) * (↑x.i : Int) + (3 : Int)).toNat (0 : Int) == (0 : Int)) = true → in64 ((↑x.i : Int) + (1 : Int)) ∧ ∃ (x' : (tx4 a).σ), x'.i.le (7 : Nat) ∧ (7 : Nat) - x'.i < (7 : Nat) - x.i ∧ true = true ∧ XV.ptr (0 : Nat) (0 : Nat) (0 : Nat) (0 : Nat) = XV.ptr (0 : Nat) (0 : Nat) (0 : Nat) (0 : Nat) ∧ false = false ∧ prn a = prn a ∧ gaC (prn a) (prn a).size = gaC (prn a) (prn a).size ∧ (1 : Int) = zeC a x'.i ∧ coC (prn a) (prn a).size = coC (prn a) (prn a).size ∧ (↑x.i : Int) + (1 : Int) = (↑x'.i : Int) ∧ (((23 : TypeId) = (23 : TypeId) ∧ true = true) ∧ a (0 : Nat) = a (0 : Nat) ∧ a (1 : Nat) = a (1 : Nat) ∧ a (2 : Nat) = a (2 : Nat) ∧ a (3 : Nat) = a (3 : Nat) ∧ a (4 : Nat) = a (4 : Nat) ∧ a (5 : Nat) = a (5 : Nat) ∧ a (6 : Nat) = a (6 : Nat) ∧ a (7 : Nat) = a (7 : Nat) ∧ a (8 : Nat) = a (8 : Nat) ∧ a (9 : Nat) = a (9 : Nat) ∧ a (10 : Nat) = a (10 : Nat) ∧ a (11 : Nat) = a (11 : Nat) ∧ a (12 : Nat) = a (12 : Nat) ∧ a (13 : Nat) = a (13 : Nat) ∧ a (14 : Nat) = a (14 : Nat) ∧ a (15 : Nat) = a (15 : Nat) ∧ True) ∧ True) ∧ (([a (0 : Nat), a (1 : Nat), a (2 : Nat), a (3 : Nat), a (4 : Nat), a (5 : Nat), a (6 : Nat), a (7 : Nat), a (8 : Nat), a (9 : Nat), a (10 : Nat), a (11 : Nat), a (12 : Nat), a (13 : Nat), a (14 : Nat), a (15 : Nat)].getD ((2 : Int) * (↑x.i : Int)).toNat (0 : Int) == (0 : Int) && [a (0 : Nat), a (1 : Nat), a (2 : Nat), a (3 : Nat), a (4 : Nat), a (5 : Nat), a (6 : Nat), a (7 : Nat), a (8 : Nat), a (9 : Nat), a (10 : Nat), a (11 : Nat), a (12 : Nat), a (13 : Nat), a (14 : Nat), a (15 : Nat)].getD ((2 : Int) * (↑x.i : Int) + (1 : Int)).toNat (0 : Int) == (0 : Int) && [a (0 : Nat), a (1 : Nat), a (2 : Nat), a (3 : Nat), a (4 : Nat), a (5 : Nat), a (6 : Nat), a (7 : Nat), a (8 : Nat), a (9 : Nat), a (10 : Nat), a (11 : Nat), a (12 : Nat), a (13 : Nat), a (14 : Nat), a (15 : Nat)].getD ((2 : Int) * (↑x.i : Int) + (2 : Int)).toNat (0 : Int) == (0 : Int) && [a (0 : Nat), a (1 : Nat), a (2 : Nat), a (3 : Nat), a (4 : Nat), a (5 : Nat), a (6 : Nat), a (7 : Nat), a (8 : Nat), a (9 : Nat), a (10 : Nat), a (11 : Nat), a (12 : Nat), a (13 : Nat), a (14 : Nat), a (15 : Nat)].getD ((2 : Int) * (↑x.i : Int) + (3 : Int)).toNat (0 : Int) == (0 : Int)) = false → in64 ((↑x.i : Int) + (1 : Int)) ∧ ∃ (x' : (tx4 a).σ), x'.i.le (7 : Nat) ∧ (7 : Nat) - x'.i < (7 : Nat) - x.i ∧ true = true ∧ XV.ptr (0 : Nat) (0 : Nat) (0 : Nat) (0 : Nat) = XV.ptr (0 : Nat) (0 : Nat) (0 : Nat) (0 : Nat) ∧ false = false ∧ prn a = prn a ∧ gaC (prn a) (prn a).size = gaC (prn a) (prn a).size ∧ zeC a x.i = zeC a x'.i ∧ coC (prn a) (prn a).size = coC (prn a) (prn a).size ∧ (↑x.i : Int) + (1 : Int) = (↑x'.i : Int) ∧ (((23 : TypeId) = (23 : TypeId) ∧ true = true) ∧ a (0 : Nat) = a (0 : Nat) ∧ a (1 : Nat) = a (1 : Nat) ∧ a (2 : Nat) = a (2 : Nat) ∧ a (3 : Nat) = a (3 : Nat) ∧ a (4 : Nat) = a (4 : Nat) ∧ a (5 : Nat) = a (5 : Nat) ∧ a (6 : Nat) = a (6 : Nat) ∧ a (7 : Nat) = a (7 : Nat) ∧ a (8 : Nat) = a (8 : Nat) ∧ a (9 : Nat) = a (9 : Nat) ∧ a (10 : Nat) = a (10 : Nat) ∧ a (11 : Nat) = a (11 : Nat) ∧ a (12 : Nat) = a (12 : Nat) ∧ a (13 : Nat) = a (13 : Nat) ∧ a (14 : Nat) = a (14 : Nat) ∧ a (15 : Nat) = a (15 : Nat) ∧ True) ∧ True)) ∧ (decide ((↑x.i : Int) < (7 : Int)) = false → (gaC (prn a) (prn a).size == zeC a x.i && (gaC (prn a) (prn a).size == (1 : Int) || coC (prn a) (prn a).size == (7 : Int)) && decide ((↑(prn a).size : Int) ≤ (39 : Int))) = true))))
theorem textsV_eq (a : Nat → Int) : textsV a = (funC cxj Tryd.f4 (mkSc (txE a) (bodyOf Tryd.f4)) [adr a] (XB true)) := by kernel_rfl
end Go.Proofs.YtghmlhdlkgjbeaaDoorAv
set_option linter.unusedVariables false
set_option linter.unusedSimpArgs false
set_option maxRecDepth 100000
namespace Go.Proofs.YtghmlhdlkgjbeaaDoorAv
open Go Go.RowKit
theorem sp_app (c : UInt8) (y : List UInt8) : ∀ x : List UInt8, split1 c (x ++ c :: y) = split1 c x ++ split1 c y
  | [] => by
    show split1 c (c :: y) = _
    conv => lhs; unfold split1
    rw [if_pos rfl]
    rfl
  | b :: x => by
    have ih := sp_app c y x
    have u : ∀ l : List UInt8, split1 c (b :: l) = if b = c then [] :: split1 c l else match split1 c l with | h :: t => (b :: h) :: t | [] => [[b]] := fun _ => rfl
    rw [List.cons_append, u, u]
    by_cases h : b = c
    · rw [if_pos h, if_pos h, ih]; rfl
    · rw [if_neg h, if_neg h, ih]
      cases hs : split1 c x with
      | nil => exact absurd hs (split1_ne c x)
      | cons p q => rfl
/-- A text that Print does not write is told so. -/
theorem parN_not {t : ByteArray} (h : ∀ a, b16 a → prn a ≠ t) : parN t = 5 := by
  refine if_neg fun e => ?_
  obtain ⟨a, ha, e⟩ := parOk_of t e
  exact h a ha e
theorem p4_46 (a : Nat → Int) (h4 : is4 a = true) : (46 : UInt8) ∈ (prn a).data.toList := by
  rw [prn_four a h4]
  simp
theorem p4_58 (a : Nat → Int) (ha : b16 a) (h4 : is4 a = true) : (58 : UInt8) ∉ (prn a).data.toList := by
  have n0 : (58 : UInt8) ∉ (prF a 0).data.toList := (itoa_bb (a 12) (ha 12 (by omega))).2.1.2
  have n1 : (58 : UInt8) ∉ (prF a 1).data.toList := (itoa_bb (a 13) (ha 13 (by omega))).2.1.2
  have n2 : (58 : UInt8) ∉ (prF a 2).data.toList := (itoa_bb (a 14) (ha 14 (by omega))).2.1.2
  have n3 : (58 : UInt8) ∉ (prF a 3).data.toList := (itoa_bb (a 15) (ha 15 (by omega))).2.1.2
  rw [prn_four a h4]
  simp only [List.mem_append, List.mem_cons, not_or]
  exact ⟨n0, by decide, n1, by decide, n2, by decide, n3⟩
theorem p6_58 (a : Nat → Int) (ha : b16 a) (h4 : is4 a = false) : (58 : UInt8) ∈ (prn a).data.toList := by
  rcases prn_six a ha h4 with ⟨h, -⟩ | ⟨b, r, hr, hbr, hz, h⟩
  · rw [h]
    show (58 : UInt8) ∈ cjn (hexL (gp a 0).toNat :: hexL (gp a 1).toNat :: _)
    rw [cjn_cons _ _ (by simp)]
    simp
  · rw [h]
    simp
theorem is4_by46 (a : Nat → Int) (ha : b16 a) (h : (46 : UInt8) ∈ (prn a).data.toList) : is4 a = true := by
  cases h4 : is4 a with
  | true => rfl
  | false => exact absurd h (prn_nodot a ha h4)
theorem is6_by58 (a : Nat → Int) (ha : b16 a) (h : (58 : UInt8) ∈ (prn a).data.toList) : is4 a = false := by
  cases h4 : is4 a with
  | true => exact absurd h (p4_58 a ha h4)
  | false => rfl
theorem sp4_len (a : Nat → Int) (ha : b16 a) (h4 : is4 a = true) : (split1 46 (prn a).data.toList).length = 4 := by
  have := fourP_prn a ha h4
  unfold fourP at this
  rw [splitS_one] at this
  have := congrArg List.length this
  rw [List.length_map] at this
  exact this
/-- .1 behind it. -/
theorem no_dot1 (a : Nat → Int) (ha : b16 a) : parN (prn a ++ ⟨#[46, 49]⟩) = 5 := parN_not fun a' ha' e => by
  have ed : (prn a').data.toList = (prn a).data.toList ++ 46 :: [49] := by rw [e, app_dt]
  have h4' := is4_by46 a' ha' (by rw [ed]; simp)
  cases h4 : is4 a with
  | true =>
    have l1 := sp4_len a ha h4
    have l2 := sp4_len a' ha' h4'
    rw [ed, sp_app, List.length_append, l1] at l2
    have : (split1 46 [49]).length = 1 := by decide
    omega
  | false =>
    refine p4_58 a' ha' h4' ?_
    rw [ed]
    exact List.mem_append_left _ (p6_58 a ha h4)
theorem clc_end : ∀ x : List UInt8, ¬ clc (x ++ [58])
  | [], h => by
    obtain ⟨d, l', h1, -⟩ := h.1 rfl
    cases h1
  | c :: x, h => clc_end x h.2
/-- A colon behind it. -/
theorem no_colon (a : Nat → Int) (ha : b16 a) : parN (prn a ++ ⟨#[58]⟩) = 5 := parN_not fun a' ha' e => by
  have ed : (prn a').data.toList = (prn a).data.toList ++ [58] := by rw [e, app_dt]
  have h6' := is6_by58 a' ha' (by rw [ed]; simp)
  have h6 : is4 a = false := by
    cases h4 : is4 a with
    | false => rfl
    | true => exact absurd (by rw [ed]; exact List.mem_append_left _ (p4_46 a h4)) (prn_nodot a' ha' h6')
  rcases prn_six a ha h6 with ⟨h, -⟩ | ⟨b, r, hr, hbr, -, h⟩
  · have hc := clc_cjn _ (gL_ok a ha 0 8 (by omega))
    rcases prn_six a' ha' h6' with ⟨h', -⟩ | ⟨b', r', hr', hbr', -, h'⟩
    · have hc' := clc_cjn _ (gL_ok a' ha' 0 8 (by omega))
      rw [← h', ed] at hc'
      exact clc_end _ hc'
    · have hy := clc_cjn _ (gL_ok a' ha' (b' + r') (8 - b' - r') (by omega))
      rw [h', h] at ed
      generalize cjn (gL a' (b' + r') (8 - b' - r')) = y at *
      rcases List.eq_nil_or_concat y with rfl | ⟨y', c, rfl⟩
      · have e2 : cjn (gL a' 0 b') ++ [58] = cjn (gL a 0 8) := by
          apply List.append_cancel_right (bs := [58])
          rw [← ed, List.append_assoc]
          rfl
        rw [← e2] at hc
        exact clc_end _ hc
      · have e2 : (cjn (gL a' 0 b') ++ 58 :: 58 :: y') ++ [c] = cjn (gL a 0 8) ++ [58] := by
          rw [← ed, List.append_assoc, List.concat_eq_append]
          rfl
        have e3 := (List.append_inj' e2 rfl).2
        have e3 : c = 58 := by simpa using e3
        rw [e3, List.concat_eq_append] at hy
        exact clc_end _ hy
  · have hx := clc_cjn _ (gL_ok a ha 0 b (by omega))
    have e1 : (prn a').data.toList = cjn (gL a 0 b) ++ 58 :: 58 :: (cjn (gL a (b + r) (8 - b - r)) ++ [58]) := by
      rw [ed, h, List.append_assoc]
      rfl
    have c1 := cut_at _ (cjn (gL a (b + r) (8 - b - r)) ++ [58]) hx
    rw [← e1] at c1
    rcases prn_six a' ha' h6' with ⟨h', -⟩ | ⟨b', r', hr', hbr', -, h'⟩
    · have c2 := cut_no _ (clc_cjn _ (gL_ok a' ha' 0 8 (by omega)))
      rw [← h', c1, Prod.mk.injEq, Prod.mk.injEq] at c2
      exact absurd c2.2.2 (by decide)
    · have c2 := cut_at _ (cjn (gL a' (b' + r') (8 - b' - r'))) (clc_cjn _ (gL_ok a' ha' 0 b' (by omega)))
      have hy := clc_cjn _ (gL_ok a' ha' (b' + r') (8 - b' - r') (by omega))
      rw [← h', c1] at c2
      rw [Prod.mk.injEq, Prod.mk.injEq] at c2
      rw [← c2.2.1] at hy
      exact clc_end _ hy
/-- What stands ahead of the first colon. -/
def fpc (l : List UInt8) : List UInt8 := l.takeWhile (· ≠ 58)
theorem fpc_app (x y : List UInt8) (h : (58 : UInt8) ∉ x) : fpc (x ++ 58 :: y) = x := by
  unfold fpc
  rw [List.takeWhile_append_of_pos (fun c hc => by simpa using fun e : c = 58 => h (e ▸ hc))]
  simp
theorem fpc_all (x : List UInt8) (h : (58 : UInt8) ∉ x) : fpc x = x := by
  have := fpc_app x [] h
  unfold fpc at this ⊢
  rw [List.takeWhile_append] at this
  split at this
  · rename_i hl
    exact (List.takeWhile_prefix _).eq_of_length hl
  · exact this
theorem fpc_cjn (x : List UInt8) (l : List (List UInt8)) (y : List UInt8) (h : (58 : UInt8) ∉ x) : fpc (cjn (x :: l) ++ 58 :: y) = x ∧ fpc (cjn (x :: l)) = x := by
  cases l with
  | nil => exact ⟨fpc_app x y h, fpc_all x h⟩
  | cons z l =>
    rw [cjn_cons x _ (by simp)]
    refine ⟨?_, fpc_app x _ h⟩
    rw [List.append_assoc]
    exact fpc_app x _ h
theorem gL_cons (a : Nat → Int) (m : Nat) : gL a 0 (m + 1) = hexL (gp a 0).toNat :: (gL a 1 m) := by
  unfold gL
  rw [List.range_succ_eq_map, List.map_cons, List.map_map]
  congr 1
  apply List.map_congr_left
  intro j _
  show hexL (gp a (0 + (j + 1))).toNat = _
  rw [show 0 + (j + 1) = 1 + j by omega]
theorem fpc_prn (a : Nat → Int) (ha : b16 a) (h4 : is4 a = false) : fpc (prn a).data.toList = [] ∨ fpc (prn a).data.toList = hexL (gp a 0).toNat := by
  have hn : (58 : UInt8) ∉ hexL (gp a 0).toNat := (hexL_no _ (by have := gp_b a ha 0 (by omega); omega)).1
  rcases prn_six a ha h4 with ⟨h, -⟩ | ⟨b, r, hr, hbr, -, h⟩
  · right
    rw [h, gL_cons a 7]
    exact (fpc_cjn _ _ [] hn).2
  · rw [h]
    cases b with
    | zero => left; rfl
    | succ b =>
      right
      rw [gL_cons a b]
      exact (fpc_cjn _ _ _ hn).1
theorem hexd_nz : ∀ k : Fin 16, k.val ≠ 0 → hexd k.val ≠ 48 := by decide
theorem hexL_nz (n : Nat) (hn : n < 65536) (p : List UInt8) (h : hexL n = 48 :: p) : p = [] := by
  by_cases h1 : n < 16
  · rw [hexL_1 n h1] at h
    simp at h
    exact h.2
  · exfalso
    by_cases h2 : n < 256
    · rw [hexL_2 n h1 h2] at h
      simp only [List.cons.injEq] at h
      exact hexd_nz ⟨n / 16, by omega⟩ (by show n / 16 ≠ 0; omega) h.1
    · by_cases h3 : n < 4096
      · rw [hexL_3 n h1 h2 h3] at h
        simp only [List.cons.injEq] at h
        exact hexd_nz ⟨n / 256, by omega⟩ (by show n / 256 ≠ 0; omega) h.1
      · rw [hexL_4 n h1 h2 h3] at h
        simp only [List.cons.injEq] at h
        exact hexd_nz ⟨n / 4096, by omega⟩ (by show n / 4096 ≠ 0; omega) h.1
theorem itoa_nz : ∀ x : Fin 256, (itoaB (x.val : Int)).data.toList.head? = some 48 → (itoaB (x.val : Int)).data.toList.length = 1 := by decide +kernel
/-- A nought ahead. -/
theorem no_nought (a : Nat → Int) (ha : b16 a) (h : (prn a).data.toList.getD 0 0 ≠ 58) : parN (⟨#[48]⟩ ++ prn a) = 5 := parN_not fun a' ha' e => by
  have ed : (prn a').data.toList = 48 :: (prn a).data.toList := by rw [e, app_dt]; rfl
  cases h4 : is4 a with
  | true =>
    have h4' := is4_by46 a' ha' (by rw [ed]; exact List.mem_cons_of_mem _ (p4_46 a h4))
    have i0 := itoa_bb (a 12) (ha 12 (by omega))
    have n0 : (46 : UInt8) ∉ (prF a 0).data.toList := i0.2.1.1
    have n0' : (46 : UInt8) ∉ (prF a' 0).data.toList := (itoa_bb (a' 12) (ha' 12 (by omega))).2.1.1
    rw [prn_four a h4, prn_four a' h4'] at ed
    have ed : (prF a' 0).data.toList ++ 46 :: ((prF a' 1).data.toList ++ 46 :: ((prF a' 2).data.toList ++ 46 :: (prF a' 3).data.toList)) = (48 :: (prF a 0).data.toList) ++ 46 :: ((prF a 1).data.toList ++ 46 :: ((prF a 2).data.toList ++ 46 :: (prF a 3).data.toList)) := ed
    have s1 := sp_at 46 ((prF a' 1).data.toList ++ 46 :: ((prF a' 2).data.toList ++ 46 :: (prF a' 3).data.toList)) (prF a' 0).data.toList n0'
    rw [ed, sp_at 46 _ _ (by simp only [List.mem_cons, not_or]; exact ⟨by decide, n0⟩)] at s1
    have s2 : 48 :: (prF a 0).data.toList = (prF a' 0).data.toList := (List.cons.inj s1).1
    have h1 := ha' 12 (by omega)
    have key := itoa_nz ⟨(a' 12).toNat, by omega⟩
    have ex : (((⟨(a' 12).toNat, by omega⟩ : Fin 256).val : Nat) : Int) = a' 12 := by
      show (((a' 12).toNat : Nat) : Int) = a' 12
      omega
    rw [ex] at key
    have s3 : (itoaB (a' 12)).data.toList = 48 :: (prF a 0).data.toList := s2.symm
    rw [s3] at key
    have := key rfl
    simp only [List.length_cons] at this
    exact i0.2.2 (List.length_eq_zero_iff.1 (by show (prF a 0).data.toList.length = 0; omega))
  | false =>
    have h6' := is6_by58 a' ha' (by rw [ed]; exact List.mem_cons_of_mem _ (p6_58 a ha h4))
    have f1 : fpc (prn a').data.toList = 48 :: fpc (prn a).data.toList := by
      rw [ed]
      unfold fpc
      rw [List.takeWhile_cons, if_pos (by decide)]
    rcases fpc_prn a' ha' h6' with f2 | f2
    · rw [f1] at f2; cases f2
    · rw [f1] at f2
      have hg := gp_b a' ha' 0 (by omega)
      have hp := hexL_nz _ (by omega) _ f2.symm
      cases hl : (prn a).data.toList with
      | nil =>
        have := p6_58 a ha h4
        rw [hl] at this
        cases this
      | cons c l =>
        rw [hl] at h hp
        have hc : c ≠ 58 := h
        unfold fpc at hp
        rw [List.takeWhile_cons, if_pos (by simpa using hc)] at hp
        cases hp
theorem no_nought2 (a : Nat → Int) (ha : b16 a) (h : (prn a).data.toList.getD 0 0 = 58) (t : ByteArray) (ht : t.data.toList = 48 :: 58 :: (prn a).data.toList) : parN t = 5 := parN_not fun a' ha' e => by
  have ed : (prn a').data.toList = 48 :: 58 :: (prn a).data.toList := by rw [e, ht]
  have h6' := is6_by58 a' ha' (by rw [ed]; simp)
  have h6 : is4 a = false := by
    cases h4 : is4 a with
    | false => rfl
    | true => exact absurd (by rw [ed]; exact List.mem_cons_of_mem _ (List.mem_cons_of_mem _ (p4_46 a h4))) (prn_nodot a' ha' h6')
  have hs : ∃ y, (prn a).data.toList = 58 :: 58 :: y := by
    rcases prn_six a ha h6 with ⟨h', -⟩ | ⟨b, r, hr, hbr, -, h'⟩
    · obtain ⟨d, l', e2, hd⟩ := cjn_head _ (gL_ok a ha 0 8 (by omega)) (by rw [gL_succ]; simp)
      rw [h', e2] at h
      exact absurd h hd
    · cases b with
      | zero => exact ⟨_, h'⟩
      | succ b =>
        obtain ⟨d, l', e2, hd⟩ := cjn_head _ (gL_ok a ha 0 (b + 1) (by omega)) (by rw [gL_succ]; simp)
        rw [h', e2] at h
        exact absurd h hd
  obtain ⟨y, hy⟩ := hs
  have c1 := cut_at [48] (58 :: y) ⟨fun e => absurd e (by decide), trivial⟩
  have e1 : [48] ++ 58 :: 58 :: 58 :: y = (prn a').data.toList := by rw [ed, hy]; rfl
  rw [e1] at c1
  rcases prn_six a' ha' h6' with ⟨h', -⟩ | ⟨b', r', hr', hbr', -, h'⟩
  · have c2 := cut_no _ (clc_cjn _ (gL_ok a' ha' 0 8 (by omega)))
    rw [← h', c1, Prod.mk.injEq, Prod.mk.injEq] at c2
    exact absurd c2.2.2 (by decide)
  · have c2 := cut_at _ (cjn (gL a' (b' + r') (8 - b' - r'))) (clc_cjn _ (gL_ok a' ha' 0 b' (by omega)))
    rw [← h', c1, Prod.mk.injEq, Prod.mk.injEq] at c2
    by_cases hm : gL a' (b' + r') (8 - b' - r') = []
    · rw [hm] at c2
      cases c2.2.1
    · obtain ⟨d, l', e2, hd⟩ := cjn_head _ (gL_ok a' ha' (b' + r') (8 - b' - r') (by omega)) hm
      rw [e2, List.cons.injEq] at c2
      exact hd c2.2.1.1.symm
/-- The signs that Print writes. -/
def pch (c : UInt8) : Prop := c = 46 ∨ c = 58 ∨ ∃ k, k < 16 ∧ c = hexd k
theorem itoa_ch : ∀ x : Fin 256, ∀ c ∈ (itoaB (x.val : Int)).data.toList, (48 : UInt8) ≤ c ∧ c ≤ 57 := by decide +kernel
theorem dig_hexd : ∀ c : Fin 256, 48 ≤ c.val → c.val ≤ 57 → UInt8.ofNat c.val = hexd (c.val - 48) := by decide
theorem dig_pch (c : UInt8) (h : (48 : UInt8) ≤ c ∧ c ≤ 57) : pch c := by
  have h1 : 48 ≤ c.toNat := UInt8.le_iff_toNat_le.1 h.1
  have h2 : c.toNat ≤ 57 := UInt8.le_iff_toNat_le.1 h.2
  have := dig_hexd ⟨c.toNat, by omega⟩ h1 h2
  refine .inr (.inr ⟨c.toNat - 48, by omega, ?_⟩)
  rw [← this]
  simp
theorem itoa_chB (x : Int) (h : 0 ≤ x ∧ x ≤ 255) : ∀ c ∈ (itoaB x).data.toList, (48 : UInt8) ≤ c ∧ c ≤ 57 := by
  have := itoa_ch ⟨x.toNat, by omega⟩
  have e : (((⟨x.toNat, by omega⟩ : Fin 256).val : Nat) : Int) = x := by
    show ((x.toNat : Nat) : Int) = x
    omega
  rw [e] at this
  exact this
theorem cjn_pch : ∀ l : List (List UInt8), (∀ x ∈ l, ∀ c ∈ x, pch c) → ∀ c ∈ cjn l, pch c
  | [], _, c, hc => by cases hc
  | [x], h, c, hc => h x (by simp) c hc
  | x :: y :: l, h, c, hc => by
    rw [cjn_cons x _ (by simp)] at hc
    rcases List.mem_append.1 hc with hc | hc
    · exact h x (by simp) c hc
    · rcases List.mem_cons.1 hc with hc | hc
      · exact .inr (.inl hc)
      · exact cjn_pch (y :: l) (fun z hz => h z (List.mem_cons_of_mem _ hz)) c hc
theorem gL_pch (a : Nat → Int) (ha : b16 a) (i m : Nat) (h : i + m ≤ 8) : ∀ x ∈ gL a i m, ∀ c ∈ x, pch c := fun x hx c hc => by
  obtain ⟨j, hj, rfl⟩ := List.mem_map.1 hx
  have := List.mem_range.1 hj
  have hg := gp_b a ha (i + j) (by omega)
  exact .inr (.inr (hexL_mem _ (by omega) c hc))
theorem prn_pch (a : Nat → Int) (ha : b16 a) : ∀ c ∈ (prn a).data.toList, pch c := fun c hc => by
  cases h4 : is4 a with
  | true =>
    have i : ∀ j, j < 4 → ∀ c ∈ (prF a j).data.toList, pch c := fun j hj c hc => dig_pch c (itoa_chB _ (ha (12 + j) (by omega)) c hc)
    rw [prn_four a h4] at hc
    simp only [List.mem_append, List.mem_cons] at hc
    rcases hc with hc | hc | hc | hc | hc | hc | hc
    · exact i 0 (by omega) c hc
    · exact .inl hc
    · exact i 1 (by omega) c hc
    · exact .inl hc
    · exact i 2 (by omega) c hc
    · exact .inl hc
    · exact i 3 (by omega) c hc
  | false =>
    rcases prn_six a ha h4 with ⟨h, -⟩ | ⟨b, r, hr, hbr, -, h⟩
    · rw [h] at hc
      exact cjn_pch _ (gL_pch a ha 0 8 (by omega)) c hc
    · rw [h] at hc
      rcases List.mem_append.1 hc with hc | hc
      · exact cjn_pch _ (gL_pch a ha 0 b (by omega)) c hc
      · rcases List.mem_cons.1 hc with hc | hc
        · exact .inr (.inl hc)
        · rcases List.mem_cons.1 hc with hc | hc
          · exact .inr (.inl hc)
          · exact cjn_pch _ (gL_pch a ha (b + r) (8 - b - r) (by omega)) c hc
theorem hexd_cap : ∀ k : Fin 16, ¬ (65 ≤ (hexd k.val).toNat ∧ (hexd k.val).toNat ≤ 70) := by decide
theorem pch_cap (c : UInt8) (h : pch c) : ¬ (65 ≤ c.toNat ∧ c.toNat ≤ 70) := by
  rcases h with rfl | rfl | ⟨k, hk, rfl⟩
  · decide
  · decide
  · exact hexd_cap ⟨k, hk⟩
/-- Capitals. -/
theorem no_caps (t : ByteArray) (c : UInt8) (hc : c ∈ t.data.toList) (h : 65 ≤ c.toNat ∧ c.toNat ≤ 70) : parN t = 5 := parN_not fun a ha e => by
  rw [← e] at hc
  exact pch_cap c (prn_pch a ha c hc) h
end Go.Proofs.YtghmlhdlkgjbeaaDoorAv
set_option linter.unusedVariables false
set_option linter.unusedSimpArgs false
set_option maxRecDepth 100000
namespace Go.Proofs.YtghmlhdlkgjbeaaDoorAv
open Go Go.RowKit
/-- Pairs of colons, from a place on; did a colon stand ahead? -/
def gpr : Bool → List UInt8 → Nat
  | _, [] => 0
  | b, c :: l => (if c = 58 ∧ b = true then 1 else 0) + gpr (decide (c = 58)) l
/-- No nought stands at a group's head with a digit behind it. -/
def okz : Bool → List UInt8 → Prop
  | _, [] => True
  | b, c :: l => ¬ (c = 48 ∧ b = true ∧ ∃ d l', l = d :: l' ∧ d ≠ 58) ∧ okz (decide (c = 58)) l
theorem gpr_no : ∀ (x : List UInt8) (b : Bool) (y : List UInt8), (58 : UInt8) ∉ x → x ≠ [] → gpr b (x ++ y) = gpr false y
  | [], _, _, _, h => absurd rfl h
  | [c], b, y, h, _ => by
    have hc : c ≠ 58 := fun e => h (e ▸ List.mem_cons_self)
    show (if c = 58 ∧ b = true then 1 else 0) + gpr (decide (c = 58)) y = _
    rw [if_neg (fun e => hc e.1), decide_eq_false hc, Nat.zero_add]
  | c :: d :: x, b, y, h, _ => by
    have hc : c ≠ 58 := fun e => h (e ▸ List.mem_cons_self)
    show (if c = 58 ∧ b = true then 1 else 0) + gpr (decide (c = 58)) (d :: x ++ y) = _
    rw [if_neg (fun e => hc e.1), Nat.zero_add, gpr_no (d :: x) _ y (fun e => h (List.mem_cons_of_mem _ e)) (by simp)]
theorem gpr_cjn : ∀ (l : List (List UInt8)) (b : Bool) (y : List UInt8), okG l → l ≠ [] → gpr b (cjn l ++ y) = gpr false y
  | [], _, _, _, h => absurd rfl h
  | [x], b, y, h, _ => gpr_no x b y (h x (by simp)).2.1 (h x (by simp)).1
  | x :: z :: l, b, y, h, _ => by
    have h' : okG (z :: l) := fun u hu => h u (List.mem_cons_of_mem _ hu)
    rw [cjn_cons x _ (by simp), List.append_assoc, gpr_no x b _ (h x (by simp)).2.1 (h x (by simp)).1]
    show (if (58 : UInt8) = 58 ∧ false = true then 1 else 0) + gpr (decide ((58 : UInt8) = 58)) (cjn (z :: l) ++ y) = _
    rw [if_neg (by decide), Nat.zero_add, gpr_cjn (z :: l) _ y h' (by simp)]
/-- A group's text: it has a nought at its head just if it is that. -/
def hd0 (x : List UInt8) : Prop := ∀ p, x = 48 :: p → p = []
theorem okz_no : ∀ (x y : List UInt8), (58 : UInt8) ∉ x → okz false y → okz false (x ++ y)
  | [], y, _, h => h
  | c :: x, y, h, hy => by
    have hc : c ≠ 58 := fun e => h (e ▸ List.mem_cons_self)
    refine ⟨fun e => absurd e.2.1 (by decide), ?_⟩
    rw [decide_eq_false hc]
    exact okz_no x y (fun e => h (List.mem_cons_of_mem _ e)) hy
theorem okz_g (x y : List UInt8) (b : Bool) (h : (58 : UInt8) ∉ x) (hn : x ≠ []) (h0 : hd0 x) (hy : okz false y) (hh : ∀ d l, y = d :: l → d = 58) : okz b (x ++ y) := by
  cases x with
  | nil => exact absurd rfl hn
  | cons c x =>
    have hc : c ≠ 58 := fun e => h (e ▸ List.mem_cons_self)
    refine ⟨?_, ?_⟩
    · rintro ⟨e1, -, d, l', e2, e3⟩
      have := h0 x (by rw [e1])
      subst this
      exact e3 (hh d l' e2)
    · rw [decide_eq_false hc]
      exact okz_no x y (fun e => h (List.mem_cons_of_mem _ e)) hy
theorem okz_cjn : ∀ (l : List (List UInt8)) (b : Bool) (y : List UInt8), okG l → (∀ x ∈ l, hd0 x) → l ≠ [] → okz false y → (∀ d l, y = d :: l → d = 58) → okz b (cjn l ++ y)
  | [], _, _, _, _, h, _, _ => absurd rfl h
  | [x], b, y, h, h0, _, hy, hh => okz_g x y b (h x (by simp)).2.1 (h x (by simp)).1 (h0 x (by simp)) hy hh
  | x :: z :: l, b, y, h, h0, _, hy, hh => by
    have h' : okG (z :: l) := fun u hu => h u (List.mem_cons_of_mem _ hu)
    rw [cjn_cons x _ (by simp), List.append_assoc]
    refine okz_g x _ b (h x (by simp)).2.1 (h x (by simp)).1 (h0 x (by simp)) ⟨fun e => absurd e.1 (by decide), ?_⟩ (fun d l e => (List.cons.inj e).1.symm)
    exact okz_cjn (z :: l) _ y h' (fun u hu => h0 u (List.mem_cons_of_mem _ hu)) (by simp) hy hh
theorem gL_hd0 (a : Nat → Int) (ha : b16 a) (i m : Nat) (h : i + m ≤ 8) : ∀ x ∈ gL a i m, hd0 x := fun x hx p hp => by
  obtain ⟨j, hj, rfl⟩ := List.mem_map.1 hx
  have := List.mem_range.1 hj
  have hg := gp_b a ha (i + j) (by omega)
  exact hexL_nz _ (by omega) p hp
theorem cnt_cjn : ∀ l : List (List UInt8), okG l → l ≠ [] → (cjn l).count 58 + 1 = l.length
  | [], _, h => absurd rfl h
  | [x], h, _ => by
    show x.count 58 + 1 = 1
    rw [List.count_eq_zero.2 (h x (by simp)).2.1]
  | x :: y :: l, h, _ => by
    have h' : okG (y :: l) := fun u hu => h u (List.mem_cons_of_mem _ hu)
    have ih := cnt_cjn (y :: l) h' (by simp)
    rw [cjn_cons x _ (by simp), List.count_append, List.count_eq_zero.2 (h x (by simp)).2.1, List.count_cons_self, List.length_cons]
    omega
theorem len_cjn : ∀ l : List (List UInt8), (∀ x ∈ l, x.length ≤ 4) → l ≠ [] → (cjn l).length + 1 ≤ 5 * l.length
  | [], _, h => absurd rfl h
  | [x], h, _ => by
    have := h x (by simp)
    show x.length + 1 ≤ 5
    omega
  | x :: y :: l, h, _ => by
    have h1 := h x (by simp)
    have ih := len_cjn (y :: l) (fun z hz => h z (List.mem_cons_of_mem _ hz)) (by simp)
    rw [cjn_cons x _ (by simp), List.length_append, List.length_cons, List.length_cons]
    omega
theorem gL_len4 (a : Nat → Int) (i m : Nat) : ∀ x ∈ gL a i m, x.length ≤ 4 := fun x hx => by
  obtain ⟨j, hj, rfl⟩ := List.mem_map.1 hx
  exact hexB_size _
/-- Do two groups of zeros stand together? -/
def zz (a : Nat → Int) : Prop := ∃ j, j < 7 ∧ gp a j = 0 ∧ gp a (j + 1) = 0
theorem zrun_two (a : Nat → Int) (j : Nat) (hj : j < 7) (h1 : gp a j = 0) (h2 : gp a (j + 1) = 0) : 2 ≤ zrun a 9 j := by
  rw [zrun, if_pos ⟨by omega, h1⟩, zrun, if_pos ⟨by omega, h2⟩]
  omega
/-- The text of an address that is none of IPv4: pairs of colons, colons, noughts, how long. -/
theorem prn6_all (a : Nat → Int) (ha : b16 a) (h4 : is4 a = false) : okz true (prn a).data.toList ∧ (prn a).size ≤ 39 ∧ ((zz a ∧ gpr false (prn a).data.toList = 1) ∨ (¬ zz a ∧ gpr false (prn a).data.toList = 0 ∧ (prn a).data.toList.count 58 = 7)) := by
  rcases prn_six a ha h4 with ⟨h, hz⟩ | ⟨b, r, hr, hbr, hz, h⟩
  · have ho := gL_ok a ha 0 8 (by omega)
    have hne : gL a 0 8 ≠ [] := by rw [gL_succ]; simp
    refine ⟨?_, ?_, .inr ⟨?_, ?_, ?_⟩⟩
    · have := okz_cjn _ true [] ho (gL_hd0 a ha 0 8 (by omega)) hne trivial (fun d l e => by cases e)
      rw [List.append_nil] at this
      rw [h]; exact this
    · have := len_cjn _ (gL_len4 a 0 8) hne
      rw [gL_len] at this
      rw [size_data, h]
      omega
    · rintro ⟨j, hj, h1, h2⟩
      have := zrun_two a j hj h1 h2
      have := hz j (by omega)
      omega
    · have := gpr_cjn _ false [] ho hne
      rw [List.append_nil] at this
      rw [h, this]
      rfl
    · have := cnt_cjn _ ho hne
      rw [gL_len] at this
      rw [h]
      omega
  · have ho := gL_ok a ha 0 b (by omega)
    have ho2 := gL_ok a ha (b + r) (8 - b - r) (by omega)
    have k2 : ∀ bb, okz bb (cjn (gL a (b + r) (8 - b - r))) ∧ gpr true (cjn (gL a (b + r) (8 - b - r))) = 0 := fun bb => by
      by_cases hm : gL a (b + r) (8 - b - r) = []
      · rw [hm]; exact ⟨trivial, rfl⟩
      · have h1 := okz_cjn _ bb [] ho2 (gL_hd0 a ha _ _ (by omega)) hm trivial (fun d l e => by cases e)
        have h2 := gpr_cjn _ true [] ho2 hm
        rw [List.append_nil] at h1 h2
        exact ⟨h1, by rw [h2]; rfl⟩
    have tl : okz false (58 :: 58 :: cjn (gL a (b + r) (8 - b - r))) := ⟨fun e => absurd e.1 (by decide), fun e => absurd e.1 (by decide), (k2 _).1⟩
    have tg : gpr false (58 :: 58 :: cjn (gL a (b + r) (8 - b - r))) = 1 := by
      show 0 + (1 + gpr true _) = 1
      rw [(k2 true).2]
    have l2 : (cjn (gL a (b + r) (8 - b - r))).length ≤ 5 * (8 - b - r) := by
      have := cjn_size _ (gL_len4 a (b + r) (8 - b - r))
      rw [gL_len] at this
      exact this
    have l1 : (cjn (gL a 0 b)).length ≤ 5 * b := by
      have := cjn_size _ (gL_len4 a 0 b)
      rw [gL_len] at this
      exact this
    refine ⟨?_, ?_, .inl ⟨⟨b, by omega, hz 0 (by omega), hz 1 (by omega)⟩, ?_⟩⟩
    · rw [h]
      by_cases hm : gL a 0 b = []
      · rw [hm]
        exact ⟨fun e => absurd e.1 (by decide), fun e => absurd e.1 (by decide), (k2 _).1⟩
      · exact okz_cjn _ true _ ho (gL_hd0 a ha _ _ (by omega)) hm tl (fun d l e => (List.cons.inj e).1.symm)
    · rw [size_data, h, List.length_append, List.length_cons, List.length_cons]
      omega
    · rw [h]
      by_cases hm : gL a 0 b = []
      · rw [hm]
        exact tg
      · rw [gpr_cjn _ false _ ho hm]
        exact tg
/-! The counts, place by place. -/
theorem sb58 (s : ByteArray) (i : Nat) (c : UInt8) : sbyte s (i : Int) = (c.toNat : Int) ↔ s.data.toList.getD i 0 = c := by
  unfold sbyte
  rw [Int.toNat_natCast]
  constructor
  · intro h
    apply UInt8.toNat_inj.1
    omega
  · intro h
    rw [h]
theorem drop_cons (l : List UInt8) (i : Nat) (h : i < l.length) : l.drop i = l.getD i 0 :: l.drop (i + 1) := by
  rw [List.drop_eq_getElem_cons h, List.getD_eq_getElem?_getD, List.getElem?_eq_getElem h]
  rfl
/-- Did a colon stand ahead of a place? -/
def pv (s : ByteArray) (i : Nat) : Bool := decide (0 < i ∧ s.data.toList.getD (i - 1) 0 = 58)
theorem pv_succ (s : ByteArray) (i : Nat) : pv s (i + 1) = decide (s.data.toList.getD i 0 = 58) := by
  unfold pv
  congr 1
  simp
theorem pv_sb (s : ByteArray) (i : Nat) : (0 < i ∧ sbyte s ((i : Int) - 1) = 58) ↔ pv s i = true := by
  unfold pv
  rw [decide_eq_true_iff]
  constructor
  · rintro ⟨h1, h2⟩
    have e : (i : Int) - 1 = ((i - 1 : Nat) : Int) := by omega
    rw [e] at h2
    exact ⟨h1, (sb58 s (i - 1) 58).1 h2⟩
  · rintro ⟨h1, h2⟩
    have e : (i : Int) - 1 = ((i - 1 : Nat) : Int) := by omega
    rw [e]
    exact ⟨h1, (sb58 s (i - 1) 58).2 h2⟩
theorem gaC_at (s : ByteArray) : ∀ i, i ≤ s.size → gaC s i + (gpr (pv s i) (s.data.toList.drop i) : Nat) = (gpr false s.data.toList : Nat)
  | 0, _ => by
    show 0 + ((gpr (pv s 0) (s.data.toList.drop 0) : Nat) : Int) = _
    rw [List.drop_zero, Int.zero_add]
    rfl
  | i + 1, h => by
    have ih := gaC_at s i (by omega)
    rw [drop_cons _ i (by rw [← size_data]; omega)] at ih
    rw [← ih, gaC, pv_succ, gpr]
    have e : (sbyte s (i : Int) = 58 ∧ 0 < i ∧ sbyte s ((i : Int) - 1) = 58) ↔ (s.data.toList.getD i 0 = 58 ∧ pv s i = true) := and_congr (sb58 s i 58) (pv_sb s i)
    by_cases hc : s.data.toList.getD i 0 = 58 ∧ pv s i = true
    · rw [if_pos (e.2 hc), if_pos hc]
      omega
    · rw [if_neg (fun x => hc (e.1 x)), if_neg hc]
      omega
theorem coC_at (s : ByteArray) : ∀ i, i ≤ s.size → coC s i = ((s.data.toList.take i).count 58 : Nat)
  | 0, _ => rfl
  | i + 1, h => by
    have ih := coC_at s i (by omega)
    rw [take_snoc' _ i 0 (by rw [← size_data]; omega), List.count_append, coC, ih]
    by_cases hc : sbyte s (i : Int) = 58
    · rw [if_pos hc, (sb58 s i 58).1 hc]
      simp
    · rw [if_neg hc]
      have : s.data.toList.getD i 0 ≠ 58 := fun e => hc ((sb58 s i 58).2 e)
      have h0 : [s.data.toList.getD i 0].count 58 = 0 := List.count_eq_zero.2 (fun e => this (List.mem_singleton.1 e).symm)
      rw [h0]
      omega
theorem ptC_at (s : ByteArray) : ∀ i, i ≤ s.size → ptC s i = ((s.data.toList.take i).count 46 : Nat)
  | 0, _ => rfl
  | i + 1, h => by
    have ih := ptC_at s i (by omega)
    rw [take_snoc' _ i 0 (by rw [← size_data]; omega), List.count_append, ptC, ih]
    by_cases hc : sbyte s (i : Int) = 46
    · rw [if_pos hc, (sb58 s i 46).1 hc]
      simp
    · rw [if_neg hc]
      have : s.data.toList.getD i 0 ≠ 46 := fun e => hc ((sb58 s i 46).2 e)
      have h0 : [s.data.toList.getD i 0].count 46 = 0 := List.count_eq_zero.2 (fun e => this (List.mem_singleton.1 e).symm)
      rw [h0]
      omega
theorem mem_at (s : ByteArray) (i : Nat) (h : i < s.size) : s.data.toList.getD i 0 ∈ s.data.toList := by
  have hl : i < s.data.toList.length := by rw [← size_data]; exact h
  rw [List.getD_eq_getElem?_getD, List.getElem?_eq_getElem hl]
  exact List.getElem_mem hl
theorem sb_at (s : ByteArray) (i : Nat) : sbyte s (i : Int) = ((s.data.toList.getD i 0).toNat : Int) := by
  unfold sbyte
  rw [Int.toNat_natCast]
theorem dgC_at (s : ByteArray) (hd : ∀ c ∈ s.data.toList, c = 46 ∨ ((48 : UInt8) ≤ c ∧ c ≤ 57)) : ∀ i, i ≤ s.size → dgC s i + ptC s i = (i : Int)
  | 0, _ => rfl
  | i + 1, h => by
    have ih := dgC_at s hd i (by omega)
    rw [dgC, ptC]
    by_cases hc : sbyte s (i : Int) = 46
    · rw [if_pos hc, if_pos hc]
      omega
    · rw [if_neg hc, if_neg hc]
      have := hd _ (mem_at s i (by omega))
      rcases this with e | ⟨h1, h2⟩
      · exact absurd ((sb58 s i 46).2 e) hc
      · have h1 : 48 ≤ (s.data.toList.getD i 0).toNat := UInt8.le_iff_toNat_le.1 h1
        have h2 : (s.data.toList.getD i 0).toNat ≤ 57 := UInt8.le_iff_toNat_le.1 h2
        rw [if_pos (by rw [sb_at]; omega)]
        omega
theorem okz_at : ∀ (l : List UInt8) (b : Bool), okz b l → ∀ i, i < l.length → ¬ (l.getD i 0 = 48 ∧ (if i = 0 then b = true else l.getD (i - 1) 0 = 58) ∧ i + 1 < l.length ∧ l.getD (i + 1) 0 ≠ 58)
  | [], _, _, i, hi => absurd hi (by simp)
  | c :: l, b, h, 0, _ => by
    rintro ⟨h1, h2, h3, h4⟩
    cases l with
    | nil => simp at h3
    | cons d l => exact h.1 ⟨h1, h2, d, l, rfl, h4⟩
  | c :: l, b, h, i + 1, hi => by
    rintro ⟨h1, h2, h3, h4⟩
    refine okz_at l _ h.2 i (by simpa using hi) ⟨h1, ?_, by simpa using h3, h4⟩
    rw [if_neg (by omega)] at h2
    cases i with
    | zero => rw [if_pos rfl]; exact decide_eq_true h2
    | succ i => rw [if_neg (by omega)]; exact h2
theorem zeC_at (a : Nat → Int) (ha : b16 a) : ∀ i, i ≤ 7 → (zeC a i = 0 ∨ zeC a i = 1) ∧ (zeC a i = 1 ↔ ∃ j, j < i ∧ gp a j = 0 ∧ gp a (j + 1) = 0)
  | 0, _ => ⟨.inl rfl, fun e => absurd e (by show ¬ (0 : Int) = 1; omega), fun ⟨j, hj, _⟩ => absurd hj (by omega)⟩
  | i + 1, h => by
    have ih := zeC_at a ha i (by omega)
    have e : (a (2 * i) = 0 ∧ a (2 * i + 1) = 0 ∧ a (2 * i + 2) = 0 ∧ a (2 * i + 3) = 0) ↔ (gp a i = 0 ∧ gp a (i + 1) = 0) := by
      have h0 := ha (2 * i) (by omega)
      have h1 := ha (2 * i + 1) (by omega)
      have h2 := ha (2 * i + 2) (by omega)
      have h3 := ha (2 * i + 3) (by omega)
      unfold gp
      rw [show 2 * (i + 1) = 2 * i + 2 by omega, show 2 * i + 2 + 1 = 2 * i + 3 by omega]
      constructor
      · rintro ⟨e0, e1, e2, e3⟩
        rw [e0, e1, e2, e3]
        exact ⟨rfl, rfl⟩
      · rintro ⟨e0, e1⟩
        refine ⟨by omega, by omega, by omega, by omega⟩
    rw [zeC]
    by_cases hc : a (2 * i) = 0 ∧ a (2 * i + 1) = 0 ∧ a (2 * i + 2) = 0 ∧ a (2 * i + 3) = 0
    · rw [if_pos hc]
      exact ⟨.inr rfl, fun _ => ⟨i, by omega, e.1 hc⟩, fun _ => rfl⟩
    · rw [if_neg hc]
      refine ⟨ih.1, ih.2.trans ⟨fun ⟨j, hj, h2⟩ => ⟨j, by omega, h2⟩, fun ⟨j, hj, h2⟩ => ⟨j, ?_, h2⟩⟩⟩
      by_cases hji : j = i
      · exact absurd (e.2 (hji ▸ h2)) hc
      · omega
end Go.Proofs.YtghmlhdlkgjbeaaDoorAv
set_option linter.unusedVariables false
set_option linter.unusedSimpArgs false
set_option maxRecDepth 100000
namespace Go.Proofs.YtghmlhdlkgjbeaaDoorAv
open Go Go.RowKit
theorem p4_cnt (a : Nat → Int) (ha : b16 a) (h4 : is4 a = true) : (prn a).data.toList.count 46 = 3 ∧ 7 ≤ (prn a).size ∧ ∀ c ∈ (prn a).data.toList, c = 46 ∨ ((48 : UInt8) ≤ c ∧ c ≤ 57) := by
  have i0 := itoa_bb (a 12) (ha 12 (by omega))
  have i1 := itoa_bb (a 13) (ha 13 (by omega))
  have i2 := itoa_bb (a 14) (ha 14 (by omega))
  have i3 := itoa_bb (a 15) (ha 15 (by omega))
  have c0 : (prF a 0).data.toList.count 46 = 0 := List.count_eq_zero.2 i0.2.1.1
  have c1 : (prF a 1).data.toList.count 46 = 0 := List.count_eq_zero.2 i1.2.1.1
  have c2 : (prF a 2).data.toList.count 46 = 0 := List.count_eq_zero.2 i2.2.1.1
  have c3 : (prF a 3).data.toList.count 46 = 0 := List.count_eq_zero.2 i3.2.1.1
  have l0 : 0 < (prF a 0).data.toList.length := List.length_pos_iff.2 i0.2.2
  have l1 : 0 < (prF a 1).data.toList.length := List.length_pos_iff.2 i1.2.2
  have l2 : 0 < (prF a 2).data.toList.length := List.length_pos_iff.2 i2.2.2
  have l3 : 0 < (prF a 3).data.toList.length := List.length_pos_iff.2 i3.2.2
  have d : ∀ j, j < 4 → ∀ c ∈ (prF a j).data.toList, (48 : UInt8) ≤ c ∧ c ≤ 57 := fun j hj => itoa_chB _ (ha (12 + j) (by omega))
  refine ⟨?_, ?_, ?_⟩
  · rw [prn_four a h4]
    simp only [List.count_append, List.count_cons_self, c0, c1, c2, c3]
  · rw [size_data, prn_four a h4]
    simp only [List.length_append, List.length_cons]
    omega
  · rw [prn_four a h4]
    intro c hc
    simp only [List.mem_append, List.mem_cons] at hc
    rcases hc with hc | hc | hc | hc | hc | hc | hc
    · exact .inr (d 0 (by omega) c hc)
    · exact .inl hc
    · exact .inr (d 1 (by omega) c hc)
    · exact .inl hc
    · exact .inr (d 2 (by omega) c hc)
    · exact .inl hc
    · exact .inr (d 3 (by omega) c hc)
theorem dgC_nn (s : ByteArray) : ∀ i, 0 ≤ dgC s i
  | 0 => Int.le_refl 0
  | i + 1 => by
    have := dgC_nn s i
    rw [dgC]
    split
    · exact this
    · split <;> omega
theorem hexd_ch : ∀ k : Fin 16, (48 ≤ (hexd k.val).toNat ∧ (hexd k.val).toNat ≤ 57) ∨ (97 ≤ (hexd k.val).toNat ∧ (hexd k.val).toNat ≤ 102) := by decide
theorem p6_ch (a : Nat → Int) (ha : b16 a) (h4 : is4 a = false) (i : Nat) (hi : i < (prn a).size) : sbyte (prn a) (i : Int) = 58 ∨ (48 ≤ sbyte (prn a) (i : Int) ∧ sbyte (prn a) (i : Int) ≤ 57) ∨ (97 ≤ sbyte (prn a) (i : Int) ∧ sbyte (prn a) (i : Int) ≤ 102) := by
  have hm := mem_at (prn a) i hi
  rw [sb_at]
  rcases prn_pch a ha _ hm with h | h | ⟨k, hk, h⟩
  · exact absurd (h ▸ hm) (prn_nodot a ha h4)
  · left; rw [h]; rfl
  · right
    have : (48 ≤ (hexd k).toNat ∧ (hexd k).toNat ≤ 57) ∨ (97 ≤ (hexd k).toNat ∧ (hexd k).toNat ≤ 102) := hexd_ch ⟨k, hk⟩
    rw [h]
    omega
theorem p6_nz (a : Nat → Int) (ha : b16 a) (h4 : is4 a = false) (i : Nat) (hi : i < (prn a).size) : ¬ (sbyte (prn a) (i : Int) = 48 ∧ (i = 0 ∨ sbyte (prn a) ((i : Int) - 1) = 58) ∧ i + 1 < (prn a).size ∧ sbyte (prn a) ((i : Int) + 1) ≠ 58) := by
  rintro ⟨h1, h2, h3, h5⟩
  refine okz_at _ true (prn6_all a ha h4).1 i (by rw [← size_data]; exact hi) ⟨(sb58 _ i 48).1 h1, ?_, by rw [← size_data]; exact h3, fun e => h5 ?_⟩
  · split
    · rfl
    · rename_i hn
      rcases h2 with h2 | h2
      · exact absurd h2 hn
      · have e : (i : Int) - 1 = ((i - 1 : Nat) : Int) := by omega
        rw [e] at h2
        exact (sb58 _ (i - 1) 58).1 h2
  · have e2 : (i : Int) + 1 = ((i + 1 : Nat) : Int) := by omega
    rw [e2]
    exact (sb58 _ (i + 1) 58).2 e
theorem texts_v (a : Nat → Int) (ha : b16 a) : textsV a := by
  unfold textsV
  have el : (is4 fun i => [a 0, a 1, a 2, a 3, a 4, a 5, a 6, a 7, a 8, a 9, a 10, a 11, a 12, a 13, a 14, a 15].getD i 0) = is4 a := is4_ext fun k hk => get16 a k hk
  rw [prn_l a, el]
  refine ⟨fun h => absurd h (by decide), fun _ => ⟨b16_l ha, fun h4 => ⟨⟨⟨0⟩, Nat.zero_le _, rfl, rfl, rfl, rfl, rfl, rfl, rfl, rfl, ?_, trivial⟩, ?_⟩, fun h4 => ⟨⟨⟨0⟩, Nat.zero_le _, rfl, rfl, rfl, rfl, rfl, rfl, rfl, rfl, rfl, ?_, trivial⟩, ?_⟩⟩⟩
  · and_intros <;> first | with_reducible rfl | trivial
  · obtain ⟨hc, hs7, hch⟩ := p4_cnt a ha h4
    have hs := prn_size a ha
    rintro ⟨i⟩ hi
    have hi : i ≤ (prn a).size := hi
    have hdp := dgC_at (prn a) hch i hi
    have hpn := ptC_at (prn a) i hi
    have hdn := dgC_nn (prn a) i
    refine ⟨fun h => ?_, fun h => ?_⟩
    · have h : (i : Int) < ((prn a).size : Int) := of_decide_eq_true h
      refine ⟨by dsimp only; omega, h, fun h2 => ?_, fun h2 => ?_⟩
      · have h2 : sbyte (prn a) (i : Int) = 46 := beq_iff_eq.mp h2
        refine ⟨by unfold in64; dsimp only; omega, by unfold in64; dsimp only; omega, ⟨i + 1⟩, by show i + 1 ≤ _; omega, by show (prn a).size - (i + 1) < (prn a).size - i; omega, rfl, rfl, rfl, rfl, ?_, ?_, rfl, rfl, ?_, trivial⟩
        · show dgC (prn a) i = dgC (prn a) (i + 1)
          rw [dgC, if_pos h2]
        · show ptC (prn a) i + 1 = ptC (prn a) (i + 1)
          rw [ptC, if_pos h2]
        · and_intros <;> first | with_reducible rfl | trivial
      · have h2 : ¬ sbyte (prn a) (i : Int) = 46 := fun e => by
          have h2 : (sbyte (prn a) (i : Int) == 46) = false := h2
          rw [beq_iff_eq.mpr e] at h2
          cases h2
        refine ⟨by dsimp only; omega, h, fun _ => by dsimp only; omega, fun _ => h, fun h3 => ?_, fun h3 => ?_⟩
        · have h3 : 48 ≤ sbyte (prn a) (i : Int) ∧ sbyte (prn a) (i : Int) ≤ 57 := by
            rw [Bool.and_eq_true, decide_eq_true_iff, decide_eq_true_iff] at h3
            exact h3
          refine ⟨by unfold in64; dsimp only; omega, by unfold in64; dsimp only; omega, ⟨i + 1⟩, by show i + 1 ≤ _; omega, by show (prn a).size - (i + 1) < (prn a).size - i; omega, rfl, rfl, rfl, rfl, ?_, ?_, rfl, rfl, ?_, trivial⟩
          · show dgC (prn a) i + 1 = dgC (prn a) (i + 1)
            rw [dgC, if_neg h2, if_pos h3]
          · show ptC (prn a) i = ptC (prn a) (i + 1)
            rw [ptC, if_neg h2]
          · and_intros <;> first | with_reducible rfl | trivial
        · have h3 : ¬ (48 ≤ sbyte (prn a) (i : Int) ∧ sbyte (prn a) (i : Int) ≤ 57) := fun e => by
            rw [Bool.and_eq_false_iff, decide_eq_false_iff_not, decide_eq_false_iff_not] at h3
            rcases h3 with h3 | h3
            · exact h3 e.1
            · exact h3 e.2
          refine ⟨by unfold in64; dsimp only; omega, ⟨i + 1⟩, by show i + 1 ≤ _; omega, by show (prn a).size - (i + 1) < (prn a).size - i; omega, rfl, rfl, rfl, rfl, ?_, ?_, rfl, rfl, ?_, trivial⟩
          · show dgC (prn a) i = dgC (prn a) (i + 1)
            rw [dgC, if_neg h2, if_neg h3]
          · show ptC (prn a) i = ptC (prn a) (i + 1)
            rw [ptC, if_neg h2]
          · and_intros <;> first | with_reducible rfl | trivial
    · have h : ¬ (i : Int) < ((prn a).size : Int) := of_decide_eq_false h
      obtain rfl : i = (prn a).size := by omega
      have ht : (prn a).data.toList.take (prn a).size = (prn a).data.toList := by rw [size_data, List.take_length]
      rw [ht, hc] at hpn
      refine ⟨fun _ => by unfold in64; omega, fun _ => by omega, fun _ => by omega, fun _ => by show 10 < 16; omega, fun _ => by omega, fun _ => by omega, fun _ => by show 11 < 16; omega, ?_⟩
      obtain ⟨-, h10, h11⟩ := is4_at a h4
      show (ptC (prn a) (prn a).size == 3 && dgC (prn a) (prn a).size == ((prn a).size : Int) - 3 && decide (dgC (prn a) (prn a).size ≥ 4) && a 10 == 255 && a 11 == 255) = true
      rw [h10, h11, hpn, decide_eq_true (by omega), show dgC (prn a) (prn a).size = ((prn a).size : Int) - 3 by omega]
      simp
  · and_intros <;> first | with_reducible rfl | trivial
  · obtain ⟨-, hs39, hfin⟩ := prn6_all a ha h4
    rintro ⟨i⟩ hi
    have hi : i ≤ (prn a).size := hi
    have hga := gaC_at (prn a) i hi
    have hco := coC_at (prn a) i hi
    have hgn : ∀ i, 0 ≤ gaC (prn a) i := fun i => by
      induction i with
      | zero => exact Int.le_refl 0
      | succ i ih => rw [gaC]; split <;> omega
    have hg0 := hgn i
    have hcl : ((prn a).data.toList.take i).count 58 ≤ 39 := by
      have h1 := List.count_le_length (a := (58 : UInt8)) (l := (prn a).data.toList.take i)
      rw [List.length_take, ← size_data] at h1
      omega
    have hg1 : gaC (prn a) i ≤ 1 := by
      rcases hfin with ⟨-, h⟩ | ⟨-, h, -⟩ <;> omega
    refine ⟨fun h => ?_, fun h => ?_⟩
    · have h : (i : Int) < ((prn a).size : Int) := of_decide_eq_true h
      have hch := p6_ch a ha h4 i (by omega)
      have hnz := p6_nz a ha h4 i (by omega)
      have e48 : ∀ b : Bool, ((sbyte (prn a) (i : Int) == 48 && ((i : Int) == 0 || sbyte (prn a) ((i : Int) - 1) == 58) && decide ((i : Int) + 1 < ((prn a).size : Int)) && sbyte (prn a) ((i : Int) + 1) != 58) = true → b = true) := fun b h2 => by
        exfalso
        apply hnz
        simp only [Bool.and_eq_true, Bool.or_eq_true, beq_iff_eq, decide_eq_true_iff, bne_iff_ne, ne_eq] at h2
        obtain ⟨⟨⟨x1, x2⟩, x3⟩, x4⟩ := h2
        exact ⟨x1, x2.imp (fun e => by omega) id, by omega, x4⟩
      have g1 : (sbyte (prn a) (i : Int) == 48 && !((i : Int) == 0)) = true → in64 ((i : Int) - 1) := fun _ => by unfold in64; omega
      have g2 : (sbyte (prn a) (i : Int) == 48 && !((i : Int) == 0)) = true → 0 ≤ (i : Int) - 1 := fun h2 => by
        simp only [Bool.and_eq_true, Bool.not_eq_true', beq_eq_false_iff_ne, ne_eq] at h2
        omega
      have g3 : (sbyte (prn a) (i : Int) == 48 && !((i : Int) == 0)) = true → (i : Int) - 1 < ((prn a).size : Int) := fun _ => by omega
      have g4 : (sbyte (prn a) (i : Int) == 48 && ((i : Int) == 0 || sbyte (prn a) ((i : Int) - 1) == 58)) = true → in64 ((i : Int) + 1) := fun _ => by unfold in64; omega
      have g5 : (sbyte (prn a) (i : Int) == 48 && ((i : Int) == 0 || sbyte (prn a) ((i : Int) - 1) == 58) && decide ((i : Int) + 1 < ((prn a).size : Int))) = true → in64 ((i : Int) + 1) := fun _ => by unfold in64; omega
      have g6 : (sbyte (prn a) (i : Int) == 48 && ((i : Int) == 0 || sbyte (prn a) ((i : Int) - 1) == 58) && decide ((i : Int) + 1 < ((prn a).size : Int))) = true → 0 ≤ (i : Int) + 1 := fun _ => by omega
      have g7 : (sbyte (prn a) (i : Int) == 48 && ((i : Int) == 0 || sbyte (prn a) ((i : Int) - 1) == 58) && decide ((i : Int) + 1 < ((prn a).size : Int))) = true → (i : Int) + 1 < ((prn a).size : Int) := fun h2 => by
        rw [Bool.and_eq_true, decide_eq_true_iff] at h2
        exact h2.2
      have i1 : in64 ((i : Int) + 1) := by unfold in64; omega
      have l1 : i + 1 ≤ (prn a).size := by omega
      have l2 : (prn a).size - (i + 1) < (prn a).size - i := by omega
      refine ⟨by dsimp only; omega, h, fun h2 => ?_, fun h2 => ?_⟩
      · have h2 : sbyte (prn a) (i : Int) = 58 := beq_iff_eq.mp h2
        have ec : coC (prn a) (i + 1) = coC (prn a) i + 1 := by rw [coC, if_pos h2]
        refine ⟨by unfold in64; dsimp only; omega, fun _ => by unfold in64; dsimp only; omega, fun h3 => by have h3 : (i : Int) > 0 := of_decide_eq_true h3; dsimp only; omega, fun _ => by dsimp only; omega, fun h3 => ?_, fun h3 => ?_⟩
        · have h3 : (i : Int) > 0 ∧ sbyte (prn a) ((i : Int) - 1) = 58 := by
            rw [Bool.and_eq_true, decide_eq_true_iff, beq_iff_eq] at h3
            exact h3
          have eg : gaC (prn a) (i + 1) = gaC (prn a) i + 1 := by rw [gaC, if_pos ⟨h2, by omega, h3.2⟩]
          refine ⟨by unfold in64; dsimp only; omega, fun h => h, fun h => h, g1, g2, g3, fun h => h, fun h => h, g4, g5, g6, g7, e48 _, fun _ => ⟨i1, ⟨i + 1⟩, l1, l2, rfl, rfl, rfl, rfl, eg.symm, rfl, ec.symm, rfl, rfl, ?_, trivial⟩⟩
          and_intros <;> first | with_reducible rfl | trivial
        · have h3 : ¬ (0 < i ∧ sbyte (prn a) ((i : Int) - 1) = 58) := fun e => by
            rw [Bool.and_eq_false_iff, decide_eq_false_iff_not, beq_eq_false_iff_ne] at h3
            rcases h3 with h3 | h3
            · have h3 : ¬ (i : Int) > 0 := h3
              omega
            · exact h3 e.2
          have eg : gaC (prn a) (i + 1) = gaC (prn a) i := by rw [gaC, if_neg (fun e => h3 e.2)]
          refine ⟨fun h => h, fun h => h, g1, g2, g3, fun h => h, fun h => h, g4, g5, g6, g7, e48 _, fun _ => ⟨i1, ⟨i + 1⟩, l1, l2, rfl, rfl, rfl, rfl, eg.symm, rfl, ec.symm, rfl, rfl, ?_, trivial⟩⟩
          and_intros <;> first | with_reducible rfl | trivial
      · have h2 : ¬ sbyte (prn a) (i : Int) = 58 := fun e => by
          have h2 : (sbyte (prn a) (i : Int) == 58) = false := h2
          rw [beq_iff_eq.mpr e] at h2
          cases h2
        have ec : coC (prn a) (i + 1) = coC (prn a) i := by rw [coC, if_neg h2]
        have eg : gaC (prn a) (i + 1) = gaC (prn a) i := by rw [gaC, if_neg (fun e => h2 e.1)]
        refine ⟨fun h3 => ?_, fun _ => ⟨g1, g2, g3, g4, g5, g6, g7, e48 _, fun _ => ⟨i1, ⟨i + 1⟩, l1, l2, rfl, rfl, rfl, rfl, eg.symm, rfl, ec.symm, rfl, rfl, ?_, trivial⟩⟩⟩
        · exfalso
          simp only [Bool.and_eq_true, Bool.or_eq_true, decide_eq_true_iff] at h3
          omega
        · and_intros <;> first | with_reducible rfl | trivial
    · have h : ¬ (i : Int) < ((prn a).size : Int) := of_decide_eq_false h
      obtain rfl : i = (prn a).size := by omega
      refine ⟨⟨⟨0⟩, Nat.zero_le _, rfl, rfl, rfl, rfl, rfl, rfl, rfl, rfl, ?_, trivial⟩, ?_⟩
      · and_intros <;> first | with_reducible rfl | trivial
      rintro ⟨j⟩ hj
      have hj : j ≤ 7 := hj
      have hz := zeC_at a ha j hj
      refine ⟨fun h => ?_, fun h => ?_⟩
      · have h : (j : Int) < 7 := of_decide_eq_true h
        have t0 : (2 * (j : Int)).toNat = 2 * j := by omega
        have t1 : (2 * (j : Int) + 1).toNat = 2 * j + 1 := by omega
        have t2 : (2 * (j : Int) + 2).toNat = 2 * j + 2 := by omega
        have t3 : (2 * (j : Int) + 3).toNat = 2 * j + 3 := by omega
        dsimp only
        rw [t0, t1, t2, t3, get16 a (2 * j) (by omega), get16 a (2 * j + 1) (by omega), get16 a (2 * j + 2) (by omega), get16 a (2 * j + 3) (by omega)]
        have n0 : 2 * j < 16 := by omega
        have n1 : 2 * j + 1 < 16 := by omega
        have n2 : 2 * j + 2 < 16 := by omega
        have n3 : 2 * j + 3 < 16 := by omega
        refine ⟨by unfold in64; omega, by omega, by omega, n0, fun _ => by unfold in64; omega, fun _ => by unfold in64; omega, fun _ => by omega, fun _ => by omega, fun _ => n1, fun _ => by unfold in64; omega, fun _ => by unfold in64; omega, fun _ => by omega, fun _ => by omega, fun _ => n2, fun _ => by unfold in64; omega, fun _ => by unfold in64; omega, fun _ => by omega, fun _ => by omega, fun _ => n3, fun h2 => ?_, fun h2 => ?_⟩
        · simp only [Bool.and_eq_true, beq_iff_eq] at h2
          obtain ⟨⟨⟨x0, x1⟩, x2⟩, x3⟩ := h2
          refine ⟨by unfold in64; omega, ⟨j + 1⟩, by show j + 1 ≤ 7; omega, by show 7 - (j + 1) < 7 - j; omega, rfl, rfl, rfl, rfl, rfl, ?_, rfl, rfl, ?_, trivial⟩
          · show 1 = zeC a (j + 1)
            rw [zeC, if_pos ⟨x0, x1, x2, x3⟩]
          · and_intros <;> first | with_reducible rfl | trivial
        · have h3 : ¬ (a (2 * j) = 0 ∧ a (2 * j + 1) = 0 ∧ a (2 * j + 2) = 0 ∧ a (2 * j + 3) = 0) := fun ⟨x0, x1, x2, x3⟩ => by
            rw [x0, x1, x2, x3] at h2
            exact absurd h2 (by decide)
          refine ⟨by unfold in64; omega, ⟨j + 1⟩, by show j + 1 ≤ 7; omega, by show 7 - (j + 1) < 7 - j; omega, rfl, rfl, rfl, rfl, rfl, ?_, rfl, rfl, ?_, trivial⟩
          · show zeC a j = zeC a (j + 1)
            rw [zeC, if_neg h3]
          · and_intros <;> first | with_reducible rfl | trivial
      · have h : ¬ (j : Int) < 7 := of_decide_eq_false h
        obtain rfl : j = 7 := by omega
        have ht : (prn a).data.toList.take (prn a).size = (prn a).data.toList := by rw [size_data, List.take_length]
        have hd : (prn a).data.toList.drop (prn a).size = [] := by rw [size_data, List.drop_length]
        rw [ht] at hco
        rw [hd] at hga
        have hga : gaC (prn a) (prn a).size + ((0 : Nat) : Int) = _ := hga
        show (gaC (prn a) (prn a).size == zeC a 7 && (gaC (prn a) (prn a).size == 1 || coC (prn a) (prn a).size == 7) && decide (((prn a).size : Int) ≤ 39)) = true
        rw [decide_eq_true (by omega), Bool.and_true]
        rcases hfin with ⟨z1, z2⟩ | ⟨z1, z2, z3⟩
        · have e1 : zeC a 7 = 1 := hz.2.2 z1
          have e2 : gaC (prn a) (prn a).size = 1 := by omega
          rw [e1, e2]
          rfl
        · have e1 : zeC a 7 = 0 := hz.1.resolve_right fun e => z1 (hz.2.1 e)
          have e2 : gaC (prn a) (prn a).size = 0 := by omega
          rw [e1, e2, hco, z3]
          rfl
theorem texts_ok : CTok Tryd.prog 4 (C1 dAL (fun a => [b16 a]) fun _ => XB true) := C1_ok cxj_ok Tryd.func4 rfl (by decide) dAL_eq.ok (by kernel_rfl) (fun _ => rfl) fun a hc => exv (textsV_eq a) (texts_v a (hc (b16 a) (.head _)))
end Go.Proofs.YtghmlhdlkgjbeaaDoorAv
set_option linter.unusedVariables false
set_option linter.unusedSimpArgs false
set_option maxRecDepth 100000
namespace Go.Proofs.YtghmlhdlkgjbeaaDoorAv
open Go Go.RowKit
theorem addrTexts_J (L : GH) (a : Nat → Int) (ha : b16 a) : JF Tryd.prog 4 [adrAV a] L (fun v L' => v = boolAV true ∧ L' = L) := by
  refine law_J texts_ok (xs := [adr a]) (cs := _) rfl ?_ ?_ L
  · intro p hp
    simp only [List.nil_append, List.mem_cons, List.not_mem_nil, or_false] at hp
    rcases hp with rfl
    exact b16_l ha
  · simp only [RVL]
    exact ⟨adr_rv _ a, trivial⟩
end Go.Proofs.YtghmlhdlkgjbeaaDoorAv
