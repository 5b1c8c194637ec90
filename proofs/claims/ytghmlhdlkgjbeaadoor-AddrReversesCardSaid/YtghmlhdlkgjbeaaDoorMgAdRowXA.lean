/- Own texts, put together: AdO; AdU; AdY; AdX; AdZ; AdRowX. -/
import Derived.Test.YtghmlhdlkgjbeaaDoorMgF
set_option linter.unusedVariables false
set_option linter.unusedSimpArgs false
set_option maxRecDepth 100000
namespace Go.Proofs.YtghmlhdlkgjbeaaDoorAv
open Go Go.RowKit
/-- The texts of an IPv4 address's bytes, the last one first. -/
def rvF (a : Nat → Int) (j : Nat) : ByteArray := if j < 4 then itoaB (a (15 - j)) else if j = 4 then ⟨#[105, 110, 45, 97, 100, 100, 114]⟩ else ⟨#[97, 114, 112, 97]⟩
/-- The texts of the halves of bytes, the last byte's lower half first. -/
def rvH (a : Nat → Int) (j : Nat) : ByteArray := if j % 2 = 0 then hexB (bits .and .u8 (a (15 - j / 2)) 15).toNat else hexB ((a (15 - j / 2)).fdiv (2 ^ 4)).toNat
def rvG (a : Nat → Int) (j : Nat) : ByteArray := if j < 32 then rvH a j else if j = 32 then ⟨#[105, 112, 54]⟩ else ⟨#[97, 114, 112, 97]⟩
def rev (a : Nat → Int) : ByteArray := if is4 a = true then ljF (rvF a) 6 else ljF (rvG a) 34
structure IR where
  i : Nat
def cxr : Cx := { cx0 with C := [(14, is4L), (23, itoaC), (26, fmtC), (19, ljnC)] }
theorem cxr_ok : cxr.ok Tryd.prog := (((cx0_ok.addC ljn_ok).addC fm_ok).addC itoa_ok).addC is4L_ok
def rvI (a : Nat → Int) : Inv where
  σ := IR
  S := fun x => ⟨[(1, .ptr 0 0 0 0), (2, XT ⟨#[]⟩), (3, .sl 1 1 0 (2 * x.i)), (5, XI (15 - (x.i : Int)))], [(0, .one 23 true (adr a).cells), (1, .vec 9 true (2 * x.i) 1 fun j => [XT (rvH a j)])], 2, false, []⟩
  inv := fun x => x.i ≤ 16
  μ := fun x => 16 - x.i
def rvE (a : Nat → Int) : Env := { loops := [(2, rvI a)], rolls := [(0, 5)], own := [(2, [(3, 9, 1)])] }
def rvV (a : Nat → Int) : Prop :=
  ((is4 fun (i : Nat) => [a (0 : Nat), a (1 : Nat), a (2 : Nat), a (3 : Nat), a (4 : Nat), a (5 : Nat), a (6 : Nat), a (7 : Nat), a (8 : Nat), a (9 : Nat), a (10 : Nat), a (11 : Nat), a (12 : Nat), a (13 : Nat), a (14 : Nat), a (15 : Nat)].getD i (0 : Int)) = true → (0 : Int) ≤ (15 : Int) ∧ (15 : Int) < (↑(16 : Nat) : Int) ∧ (15 : Nat) < [a (0 : Nat), a (1 : Nat), a (2 : Nat), a (3 : Nat), a (4 : Nat), a (5 : Nat), a (6 : Nat), a (7 : Nat), a (8 : Nat), a (9 : Nat), a (10 : Nat), a (11 : Nat), a (12 : Nat), a (13 : Nat), a (14 : Nat), a (15 : Nat)].length ∧ in64 ([a (0 : Nat), a (1 : Nat), a (2 : Nat), a (3 : Nat), a (4 : Nat), a (5 : Nat), a (6 : Nat), a (7 : Nat), a (8 : Nat), a (9 : Nat), a (10 : Nat), a (11 : Nat), a (12 : Nat), a (13 : Nat), a (14 : Nat), a (15 : Nat)].getD ((15 : Nat)) (0 : Int)) ∧ (0 : Int) ≤ [a (0 : Nat), a (1 : Nat), a (2 : Nat), a (3 : Nat), a (4 : Nat), a (5 : Nat), a (6 : Nat), a (7 : Nat), a (8 : Nat), a (9 : Nat), a (10 : Nat), a (11 : Nat), a (12 : Nat), a (13 : Nat), a (14 : Nat), a (15 : Nat)].getD ((15 : Nat)) (0 : Int) ∧ [a (0 : Nat), a (1 : Nat), a (2 : Nat), a (3 : Nat), a (4 : Nat), a (5 : Nat), a (6 : Nat), a (7 : Nat), a (8 : Nat), a (9 : Nat), a (10 : Nat), a (11 : Nat), a (12 : Nat), a (13 : Nat), a (14 : Nat), a (15 : Nat)].getD ((15 : Nat)) (0 : Int) ≤ (1000000 : Int) ∧ (0 : Nat) = (0 : Nat) ∧ (16 : Nat) ≤ (140737488355328 : Nat) ∧ (1 : Nat) ≤ (140737488355328 : Nat) ∧ in64 ((15 : Int) - (1 : Int)) ∧ (0 : Int) ≤ (15 : Int) - (1 : Int) ∧ (15 : Int) - (1 : Int) < (↑(16 : Nat) : Int) ∧ (14 : Nat) < [a (0 : Nat), a (1 : Nat), a (2 : Nat), a (3 : Nat), a (4 : Nat), a (5 : Nat), a (6 : Nat), a (7 : Nat), a (8 : Nat), a (9 : Nat), a (10 : Nat), a (11 : Nat), a (12 : Nat), a (13 : Nat), a (14 : Nat), a (15 : Nat)].length ∧ in64 ([a (0 : Nat), a (1 : Nat), a (2 : Nat), a (3 : Nat), a (4 : Nat), a (5 : Nat), a (6 : Nat), a (7 : Nat), a (8 : Nat), a (9 : Nat), a (10 : Nat), a (11 : Nat), a (12 : Nat), a (13 : Nat), a (14 : Nat), a (15 : Nat)].getD ((14 : Nat)) (0 : Int)) ∧ (0 : Int) ≤ [a (0 : Nat), a (1 : Nat), a (2 : Nat), a (3 : Nat), a (4 : Nat), a (5 : Nat), a (6 : Nat), a (7 : Nat), a (8 : Nat), a (9 : Nat), a (10 : Nat), a (11 : Nat), a (12 : Nat), a (13 : Nat), a (14 : Nat), a (15 : Nat)].getD ((14 : Nat)) (0 : Int) ∧ [a (0 : Nat), a (1 : Nat), a (2 : Nat), a (3 : Nat), a (4 : Nat), a (5 : Nat), a (6 : Nat), a (7 : Nat), a (8 : Nat), a (9 : Nat), a (10 : Nat), a (11 : Nat), a (12 : Nat), a (13 : Nat), a (14 : Nat), a (15 : Nat)].getD ((14 : Nat)) (0 : Int) ≤ (1000000 : Int) ∧ (1 : Nat) = (1 : Nat) ∧ (32 : Nat) ≤ (140737488355328 : Nat) ∧ (2 : Nat) ≤ (140737488355328 : Nat) ∧ in64 ((15 : Int) - (1 : Int) - (1 : Int)) ∧ (0 : Int) ≤ (15 : Int) - (1 : Int) - (1 : Int) ∧ (15 : Int) - (1 : Int) - (1 : Int) < (↑(16 : Nat) : Int) ∧ (13 : Nat) < [a (0 : Nat), a (1 : Nat), a (2 : Nat), a (3 : Nat), a (4 : Nat), a (5 : Nat), a (6 : Nat), a (7 : Nat), a (8 : Nat), a (9 : Nat), a (10 : Nat), a (11 : Nat), a (12 : Nat), a (13 : Nat), a (14 : Nat), a (15 : Nat)].length ∧ in64 ([a (0 : Nat), a (1 : Nat), a (2 : Nat), a (3 : Nat), a (4 : Nat), a (5 : Nat), a (6 : Nat), a (7 : Nat), a (8 : Nat), a (9 : Nat), a (10 : Nat), a (11 : Nat), a (12 : Nat), a (13 : Nat), a (14 : Nat), a (15 : Nat)].getD ((13 : Nat)) (0 : Int)) ∧ (0 : Int) ≤ [a (0 : Nat), a (1 : Nat), a (2 : Nat), a (3 : Nat), a (4 : Nat), a (5 : Nat), a (6 : Nat), a (7 : Nat), a (8 : Nat), a (9 : Nat), a (10 : Nat), a (11 : Nat), a (12 : Nat), a (13 : Nat), a (14 : Nat), a (15 : Nat)].getD ((13 : Nat)) (0 : Int) ∧ [a (0 : Nat), a (1 : Nat), a (2 : Nat), a (3 : Nat), a (4 : Nat), a (5 : Nat), a (6 : Nat), a (7 : Nat), a (8 : Nat), a (9 : Nat), a (10 : Nat), a (11 : Nat), a (12 : Nat), a (13 : Nat), a (14 : Nat), a (15 : Nat)].getD ((13 : Nat)) (0 : Int) ≤ (1000000 : Int) ∧ (2 : Nat) = (2 : Nat) ∧ (48 : Nat) ≤ (140737488355328 : Nat) ∧ (3 : Nat) ≤ (140737488355328 : Nat) ∧ in64 ((15 : Int) - (1 : Int) - (1 : Int) - (1 : Int)) ∧ (0 : Int) ≤ (15 : Int) - (1 : Int) - (1 : Int) - (1 : Int) ∧ (15 : Int) - (1 : Int) - (1 : Int) - (1 : Int) < (↑(16 : Nat) : Int) ∧ (12 : Nat) < [a (0 : Nat), a (1 : Nat), a (2 : Nat), a (3 : Nat), a (4 : Nat), a (5 : Nat), a (6 : Nat), a (7 : Nat), a (8 : Nat), a (9 : Nat), a (10 : Nat), a (11 : Nat), a (12 : Nat), a (13 : Nat), a (14 : Nat), a (15 : Nat)].length ∧ in64 ([a (0 : Nat), a (1 : Nat), a (2 : Nat), a (3 : Nat), a (4 : Nat), a (5 : Nat), a (6 : Nat), a (7 : Nat), a (8 : Nat), a (9 : Nat), a (10 : Nat), a (11 : Nat), a (12 : Nat), a (13 : Nat), a (14 : Nat), a (15 : Nat)].getD ((12 : Nat)) (0 : Int)) ∧ (0 : Int) ≤ [a (0 : Nat), a (1 : Nat), a (2 : Nat), a (3 : Nat), a (4 : Nat), a (5 : Nat), a (6 : Nat), a (7 : Nat), a (8 : Nat), a (9 : Nat), a (10 : Nat), a (11 : Nat), a (12 : Nat), a (13 : Nat), a (14 : Nat), a (15 : Nat)].getD ((12 : Nat)) (0 : Int) ∧ [a (0 : Nat), a (1 : Nat), a (2 : Nat), a (3 : Nat), a (4 : Nat), a (5 : Nat), a (6 : Nat), a (7 : Nat), a (8 : Nat), a (9 : Nat), a (10 : Nat), a (11 : Nat), a (12 : Nat), a (13 : Nat), a (14 : Nat), a (15 : Nat)].getD ((12 : Nat)) (0 : Int) ≤ (1000000 : Int) ∧ (3 : Nat) = (3 : Nat) ∧ (64 : Nat) ≤ (140737488355328 : Nat) ∧ (4 : Nat) ≤ (140737488355328 : Nat) ∧ in64 ((15 : Int) - (1 : Int) - (1 : Int) - (1 : Int) - (1 : Int)) ∧ (4 : Nat) = (4 : Nat) ∧ (96 : Nat) ≤ (140737488355328 : Nat) ∧ (6 : Nat) ≤ (140737488355328 : Nat) ∧ (6 : Nat) = (6 : Nat) ∧ (∀ (i : Nat), i < (6 : Nat) → [XT (bif i.blt ((4 : Nat)) then bif i.blt ((3 : Nat)) then bif i.blt ((2 : Nat)) then bif i.blt ((1 : Nat)) then itoaB ([a (0 : Nat), a (1 : Nat), a (2 : Nat), a (3 : Nat), a (4 : Nat), a (5 : Nat), a (6 : Nat), a (7 : Nat), a (8 : Nat), a (9 : Nat), a (10 : Nat), a (11 : Nat), a (12 : Nat), a (13 : Nat), a (14 : Nat), a (15 : Nat)].getD ((15 : Nat)) (0 : Int)) else itoaB ([a (0 : Nat), a (1 : Nat), a (2 : Nat), a (3 : Nat), a (4 : Nat), a (5 : Nat), a (6 : Nat), a (7 : Nat), a (8 : Nat), a (9 : Nat), a (10 : Nat), a (11 : Nat), a (12 : Nat), a (13 : Nat), a (14 : Nat), a (15 : Nat)].getD ((14 : Nat)) (0 : Int)) else itoaB ([a (0 : Nat), a (1 : Nat), a (2 : Nat), a (3 : Nat), a (4 : Nat), a (5 : Nat), a (6 : Nat), a (7 : Nat), a (8 : Nat), a (9 : Nat), a (10 : Nat), a (11 : Nat), a (12 : Nat), a (13 : Nat), a (14 : Nat), a (15 : Nat)].getD ((13 : Nat)) (0 : Int)) else itoaB ([a (0 : Nat), a (1 : Nat), a (2 : Nat), a (3 : Nat), a (4 : Nat), a (5 : Nat), a (6 : Nat), a (7 : Nat), a (8 : Nat), a (9 : Nat), a (10 : Nat), a (11 : Nat), a (12 : Nat), a (13 : Nat), a (14 : Nat), a (15 : Nat)].getD ((12 : Nat)) (0 : Int)) else [{ data := #[(105 : UInt8), (110 : UInt8), (45 : UInt8), (97 : UInt8), (100 : UInt8), (100 : UInt8), (114 : UInt8)] : ByteArray }, { data := #[(97 : UInt8), (114 : UInt8), (112 : UInt8), (97 : UInt8)] : ByteArray }].getD (i - (4 : Nat)) { data := #[] : ByteArray })] = [XT (bif i.blt ((4 : Nat)) then bif i.blt ((3 : Nat)) then bif i.blt ((2 : Nat)) then bif i.blt ((1 : Nat)) then itoaB ([a (0 : Nat), a (1 : Nat), a (2 : Nat), a (3 : Nat), a (4 : Nat), a (5 : Nat), a (6 : Nat), a (7 : Nat), a (8 : Nat), a (9 : Nat), a (10 : Nat), a (11 : Nat), a (12 : Nat), a (13 : Nat), a (14 : Nat), a (15 : Nat)].getD ((15 : Nat)) (0 : Int)) else itoaB ([a (0 : Nat), a (1 : Nat), a (2 : Nat), a (3 : Nat), a (4 : Nat), a (5 : Nat), a (6 : Nat), a (7 : Nat), a (8 : Nat), a (9 : Nat), a (10 : Nat), a (11 : Nat), a (12 : Nat), a (13 : Nat), a (14 : Nat), a (15 : Nat)].getD ((14 : Nat)) (0 : Int)) else itoaB ([a (0 : Nat), a (1 : Nat), a (2 : Nat), a (3 : Nat), a (4 : Nat), a (5 : Nat), a (6 : Nat), a (7 : Nat), a (8 : Nat), a (9 : Nat), a (10 : Nat), a (11 : Nat), a (12 : Nat), a (13 : Nat), a (14 : Nat), a (15 : Nat)].getD ((13 : Nat)) (0 : Int)) else itoaB ([a (0 : Nat), a (1 : Nat), a (2 : Nat), a (3 : Nat), a (4 : Nat), a (5 : Nat), a (6 : Nat), a (7 : Nat), a (8 : Nat), a (9 : Nat), a (10 : Nat), a (11 : Nat), a (12 : Nat), a (13 : Nat), a (14 : Nat), a (15 : Nat)].getD ((12 : Nat)) (0 : Int)) else [{ data := #[(105 : UInt8), (110 : UInt8), (45 : UInt8), (97 : UInt8), (100 : UInt8), (100 : UInt8), (114 : UInt8)] : ByteArray }, { data := #[(97 : UInt8), (114 : UInt8), (112 : UInt8), (97 : UInt8)] : ByteArray }].getD (i - (4 : Nat)) { data := #[] : ByteArray })]) ∧ (6 : Nat) ≤ (1000 : Nat) ∧ (∀ (i : Nat), i < (6 : Nat) → (bif i.blt ((4 : Nat)) then bif i.blt ((3 : Nat)) then bif i.blt ((2 : Nat)) then bif i.blt ((1 : Nat)) then itoaB ([a (0 : Nat), a (1 : Nat), a (2 : Nat), a (3 : Nat), a (4 : Nat), a (5 : Nat), a (6 : Nat), a (7 : Nat), a (8 : Nat), a (9 : Nat), a (10 : Nat), a (11 : Nat), a (12 : Nat), a (13 : Nat), a (14 : Nat), a (15 : Nat)].getD ((15 : Nat)) (0 : Int)) else itoaB ([a (0 : Nat), a (1 : Nat), a (2 : Nat), a (3 : Nat), a (4 : Nat), a (5 : Nat), a (6 : Nat), a (7 : Nat), a (8 : Nat), a (9 : Nat), a (10 : Nat), a (11 : Nat), a (12 : Nat), a (13 : Nat), a (14 : Nat), a (15 : Nat)].getD ((14 : Nat)) (0 : Int)) else itoaB ([a (0 : Nat), a (1 : Nat), a (2 : Nat), a (3 : Nat), a (4 : Nat), a (5 : Nat), a (6 : Nat), a (7 : Nat), a (8 : Nat), a (9 : Nat), a (10 : Nat), a (11 : Nat), a (12 : Nat), a (13 : Nat), a (14 : Nat), a (15 : Nat)].getD ((13 : Nat)) (0 : Int)) else itoaB ([a (0 : Nat), a (1 : Nat), a (2 : Nat), a (3 : Nat), a (4 : Nat), a (5 : Nat), a (6 : Nat), a (7 : Nat), a (8 : Nat), a (9 : Nat), a (10 : Nat), a (11 : Nat), a (12 : Nat), a (13 : Nat), a (14 : Nat), a (15 : Nat)].getD ((12 : Nat)) (0 : Int)) else [{ data := #[(105 : UInt8), (110 : UInt8), (45 : UInt8), (97 : UInt8), (100 : UInt8), (100 : UInt8), (114 : UInt8)] : ByteArray }, { data := #[(97 : UInt8), (114 : UInt8), (112 : UInt8), (97 : UInt8)] : ByteArray }].getD (i - (4 : Nat)) { data := #[] : ByteArray }).size ≤ (1000000 : Nat)) ∧ ljF (fun (i : Nat) => bif i.blt ((4 : Nat)) then bif i.blt ((3 : Nat)) then bif i.blt ((2 : Nat)) then bif i.blt ((1 : Nat)) then itoaB ([a (0 : Nat), a (1 : Nat), a (2 : Nat), a (3 : Nat), a (4 : Nat), a (5 : Nat), a (6 : Nat), a (7 : Nat), a (8 : Nat), a (9 : Nat), a (10 : Nat), a (11 : Nat), a (12 : Nat), a (13 : Nat), a (14 : Nat), a (15 : Nat)].getD ((15 : Nat)) (0 : Int)) else itoaB ([a (0 : Nat), a (1 : Nat), a (2 : Nat), a (3 : Nat), a (4 : Nat), a (5 : Nat), a (6 : Nat), a (7 : Nat), a (8 : Nat), a (9 : Nat), a (10 : Nat), a (11 : Nat), a (12 : Nat), a (13 : Nat), a (14 : Nat), a (15 : Nat)].getD ((14 : Nat)) (0 : Int)) else itoaB ([a (0 : Nat), a (1 : Nat), a (2 : Nat), a (3 : Nat), a (4 : Nat), a (5 : Nat), a (6 : Nat), a (7 : Nat), a (8 : Nat), a (9 : Nat), a (10 : Nat), a (11 : Nat), a (12 : Nat), a (13 : Nat), a (14 : Nat), a (15 : Nat)].getD ((13 : Nat)) (0 : Int)) else itoaB ([a (0 : Nat), a (1 : Nat), a (2 : Nat), a (3 : Nat), a (4 : Nat), a (5 : Nat), a (6 : Nat), a (7 : Nat), a (8 : Nat), a (9 : Nat), a (10 : Nat), a (11 : Nat), a (12 : Nat), a (13 : Nat), a (14 : Nat), a (15 : Nat)].getD ((12 : Nat)) (0 : Int)) else [{ data := #[(105 : UInt8), (110 : UInt8), (45 : UInt8), (97 : UInt8), (100 : UInt8), (100 : UInt8), (114 : UInt8)] : ByteArray }, { data := #[(97 : UInt8), (114 : UInt8), (112 : UInt8), (97 : UInt8)] : ByteArray }].getD (i - (4 : Nat)) { data := #[] : ByteArray }) ((6 : Nat)) = rev a) ∧ ((is4 fun (i : Nat) => [a (0 : Nat), a (1 : Nat), a (2 : Nat), a (3 : Nat), a (4 : Nat), a (5 : Nat), a (6 : Nat), a (7 : Nat), a (8 : Nat), a (9 : Nat), a (10 : Nat), a (11 : Nat), a (12 : Nat), a (13 : Nat), a (14 : Nat), a (15 : Nat)].getD i (0 : Int)) = false → (∃ (x : (rvI a).σ), x.i.le (16 : Nat) ∧ true = true ∧ XV.ptr (0 : Nat) (0 : Nat) (0 : Nat) (0 : Nat) = XV.ptr (0 : Nat) (0 : Nat) (0 : Nat) (0 : Nat) ∧ { data := #[] : ByteArray } = { data := #[] : ByteArray } ∧ XV.sl ((0 : Nat) + (1 : Nat)) (1 : Nat) (0 : Nat) (0 : Nat) = XV.sl (1 : Nat) (1 : Nat) (0 : Nat) ((2 : Nat) * x.i) ∧ (15 : Int) = (15 : Int) - (↑x.i : Int) ∧ (((23 : Nat) = (23 : TypeId) ∧ true = true) ∧ a (0 : Nat) = a (0 : Nat) ∧ a (1 : Nat) = a (1 : Nat) ∧ a (2 : Nat) = a (2 : Nat) ∧ a (3 : Nat) = a (3 : Nat) ∧ a (4 : Nat) = a (4 : Nat) ∧ a (5 : Nat) = a (5 : Nat) ∧ a (6 : Nat) = a (6 : Nat) ∧ a (7 : Nat) = a (7 : Nat) ∧ a (8 : Nat) = a (8 : Nat) ∧ a (9 : Nat) = a (9 : Nat) ∧ a (10 : Nat) = a (10 : Nat) ∧ a (11 : Nat) = a (11 : Nat) ∧ a (12 : Nat) = a (12 : Nat) ∧ a (13 : Nat) = a (13 : Nat) ∧ a (14 : Nat) = a (14 : Nat) ∧ a (15 : Nat) = a (15 : Nat) ∧ True) ∧ (((9 : Nat) = (9 : TypeId) ∧ true = true ∧ (1 : Nat) = (1 : Nat)) ∧ (0 : Nat) = (2 : Nat) * x.i ∧ ∀ (j : Nat), j < (0 : Nat) → [] = [XT (rvH a j)]) ∧ True) ∧ ∀ (x : IR), x.i.le (16 : Nat) → (decide ((15 : Int) - (↑x.i : Int) ≥ (0 : Int)) = true → (0 : Int) ≤ (15 : Int) - (↑x.i : Int) ∧ (15 : Int) - (↑x.i : Int) < (↑(16 : Nat) : Int) ∧ ((15 : Int) - (↑x.i : Int)).toNat < [a (0 : Nat), a (1 : Nat), a (2 : Nat), a (3 : Nat), a (4 : Nat), a (5 : Nat), a (6 : Nat), a (7 : Nat), a (8 : Nat), a (9 : Nat), a (10 : Nat), a (11 : Nat), a (12 : Nat), a (13 : Nat), a (14 : Nat), a (15 : Nat)].length ∧ in64 (bits BinOp.and IntKind.u8 ([a (0 : Nat), a (1 : Nat), a (2 : Nat), a (3 : Nat), a (4 : Nat), a (5 : Nat), a (6 : Nat), a (7 : Nat), a (8 : Nat), a (9 : Nat), a (10 : Nat), a (11 : Nat), a (12 : Nat), a (13 : Nat), a (14 : Nat), a (15 : Nat)].getD ((15 : Int) - (↑x.i : Int)).toNat (0 : Int)) (15 : Int)) ∧ (0 : Int) ≤ bits BinOp.and IntKind.u8 ([a (0 : Nat), a (1 : Nat), a (2 : Nat), a (3 : Nat), a (4 : Nat), a (5 : Nat), a (6 : Nat), a (7 : Nat), a (8 : Nat), a (9 : Nat), a (10 : Nat), a (11 : Nat), a (12 : Nat), a (13 : Nat), a (14 : Nat), a (15 : Nat)].getD ((15 : Int) - (↑x.i : Int)).toNat (0 : Int)) (15 : Int) ∧ bits BinOp.and IntKind.u8 ([a (0 : Nat), a (1 : Nat), a (2 : Nat), a (3 : Nat), a (4 : Nat), a (5 : Nat), a (6 : Nat), a (7 : Nat), a (8 : Nat), a (9 : Nat), a (10 : Nat), a (11 : Nat), a (12 : Nat), a (13 : Nat), a (14 : Nat), a (15 : Nat)].getD ((15 : Int) - (↑x.i : Int)).toNat (0 : Int)) (15 : Int) < (65536 : Int) ∧ (16 : Int) = (16 : Int) ∧ (0 : Int) ≤ (15 : Int) - (↑x.i : Int) ∧ (15 : Int) - (↑x.i : Int) < (↑(16 : Nat) : Int) ∧ ((15 : Int) - (↑x.i : Int)).toNat < [a (0 : Nat), a (1 : Nat), a (2 : Nat), a (3 : Nat), a (4 : Nat), a (5 : Nat), a (6 : Nat), a (7 : Nat), a (8 : Nat), a (9 : Nat), a (10 : Nat), a (11 : Nat), a (12 : Nat), a (13 : Nat), a (14 : Nat), a (15 : Nat)].length ∧ in64 (([a (0 : Nat), a (1 : Nat), a (2 : Nat), a (3 : Nat), a (4 : Nat), a (5 : Nat), a (6 : Nat), a (7 : Nat), a (8 : Nat), a (9 : Nat), a (10 : Nat), a (11 : Nat), a (12 : Nat), a (13 : Nat), a (14 : Nat), a (15 : Nat)].getD ((15 : Int) - (↑x.i : Int)).toNat (0 : Int)).fdiv ((2 : Int) ^ (4 : Nat))) ∧ (0 : Int) ≤ ([a (0 : Nat), a (1 : Nat), a (2 : Nat), a (3 : Nat), a (4 : Nat), a (5 : Nat), a (6 : Nat), a (7 : Nat), a (8 : Nat), a (9 : Nat), a (10 : Nat), a (11 : Nat), a (12 : Nat), a (13 : Nat), a (14 : Nat), a (15 : Nat)].getD ((15 : Int) - (↑x.i : Int)).toNat (0 : Int)).fdiv ((2 : Int) ^ (4 : Nat)) ∧ ([a (0 : Nat), a (1 : Nat), a (2 : Nat), a (3 : Nat), a (4 : Nat), a (5 : Nat), a (6 : Nat), a (7 : Nat), a (8 : Nat), a (9 : Nat), a (10 : Nat), a (11 : Nat), a (12 : Nat), a (13 : Nat), a (14 : Nat), a (15 : Nat)].getD ((15 : Int) - (↑x.i : Int)).toNat (0 : Int)).fdiv ((2 : Int) ^ (4 : Nat)) < (65536 : Int) ∧ (16 : Int) = (16 : Int) ∧ (2 : Nat) * x.i = (2 : Nat) * x.i ∧ ((2 : Nat) * x.i + (2 : Nat)) * (16 : Nat) ≤ (140737488355328 : Nat) ∧ (2 : Nat) * x.i + (2 : Nat) ≤ (140737488355328 : Nat) ∧ in64 ((15 : Int) - (↑x.i : Int) - (1 : Int)) ∧ ∃ (x' : (rvI a).σ), x'.i.le (16 : Nat) ∧ (16 : Nat) - x'.i < (16 : Nat) - x.i ∧ true = true ∧ XV.ptr (0 : Nat) (0 : Nat) (0 : Nat) (0 : Nat) = XV.ptr (0 : Nat) (0 : Nat) (0 : Nat) (0 : Nat) ∧ { data := #[] : ByteArray } = { data := #[] : ByteArray } ∧ XV.sl (1 : Nat) (1 : Nat) (0 : Nat) ((2 : Nat) * x.i + (2 : Nat)) = XV.sl (1 : Nat) (1 : Nat) (0 : Nat) ((2 : Nat) * x'.i) ∧ (15 : Int) - (↑x.i : Int) - (1 : Int) = (15 : Int) - (↑x'.i : Int) ∧ (((23 : TypeId) = (23 : TypeId) ∧ true = true) ∧ a (0 : Nat) = a (0 : Nat) ∧ a (1 : Nat) = a (1 : Nat) ∧ a (2 : Nat) = a (2 : Nat) ∧ a (3 : Nat) = a (3 : Nat) ∧ a (4 : Nat) = a (4 : Nat) ∧ a (5 : Nat) = a (5 : Nat) ∧ a (6 : Nat) = a (6 : Nat) ∧ a (7 : Nat) = a (7 : Nat) ∧ a (8 : Nat) = a (8 : Nat) ∧ a (9 : Nat) = a (9 : Nat) ∧ a (10 : Nat) = a (10 : Nat) ∧ a (11 : Nat) = a (11 : Nat) ∧ a (12 : Nat) = a (12 : Nat) ∧ a (13 : Nat) = a (13 : Nat) ∧ a (14 : Nat) = a (14 : Nat) ∧ a (15 : Nat) = a (15 : Nat) ∧ True) ∧ (((9 : TypeId) = (9 : TypeId) ∧ true = true ∧ (1 : Nat) = (1 : Nat)) ∧ (2 : Nat) * x.i + (2 : Nat) = (2 : Nat) * x'.i ∧ ∀ (j : Nat), j < (2 : Nat) * x.i + (2 : Nat) → [XT (bif j.blt ((2 : Nat) * x.i) then rvH a j else [hexB (bits BinOp.and IntKind.u8 ([a (0 : Nat), a (1 : Nat), a (2 : Nat), a (3 : Nat), a (4 : Nat), a (5 : Nat), a (6 : Nat), a (7 : Nat), a (8 : Nat), a (9 : Nat), a (10 : Nat), a (11 : Nat), a (12 : Nat), a (13 : Nat), a (14 : Nat), a (15 : Nat)].getD ((15 : Int) - (↑x.i : Int)).toNat (0 : Int)) (15 : Int)).toNat, hexB (([a (0 : Nat), a (1 : Nat), a (2 : Nat), a (3 : Nat), a (4 : Nat), a (5 : Nat), a (6 : Nat), a (7 : Nat), a (8 : Nat), a (9 : Nat), a (10 : Nat), a (11 : Nat), a (12 : Nat), a (13 : Nat), a (14 : Nat), a (15 : Nat)].getD ((15 : Int) - (↑x.i : Int)).toNat (0 : Int)).fdiv ((2 : Int) ^ (4 : Nat))).toNat].getD (j - (2 : Nat) * x.i) { data := #[] : ByteArray })] = [XT (rvH a j)]) ∧ True) ∧ (decide ((15 : Int) - (↑x.i : Int) ≥ (0 : Int)) = false → (2 : Nat) * x.i = (2 : Nat) * x.i ∧ ((2 : Nat) * x.i + (2 : Nat)) * (16 : Nat) ≤ (140737488355328 : Nat) ∧ (2 : Nat) * x.i + (2 : Nat) ≤ (140737488355328 : Nat) ∧ (2 : Nat) * x.i + (2 : Nat) = (2 : Nat) * x.i + (2 : Nat) ∧ (∀ (i : Nat), i < (2 : Nat) * x.i + (2 : Nat) → [XT (bif i.blt ((2 : Nat) * x.i) then rvH a i else [{ data := #[(105 : UInt8), (112 : UInt8), (54 : UInt8)] : ByteArray }, { data := #[(97 : UInt8), (114 : UInt8), (112 : UInt8), (97 : UInt8)] : ByteArray }].getD (i - (2 : Nat) * x.i) { data := #[] : ByteArray })] = [XT (bif i.blt ((2 : Nat) * x.i) then rvH a i else [{ data := #[(105 : UInt8), (112 : UInt8), (54 : UInt8)] : ByteArray }, { data := #[(97 : UInt8), (114 : UInt8), (112 : UInt8), (97 : UInt8)] : ByteArray }].getD (i - (2 : Nat) * x.i) { data := #[] : ByteArray })]) ∧ (2 : Nat) * x.i + (2 : Nat) ≤ (1000 : Nat) ∧ (∀ (i : Nat), i < (2 : Nat) * x.i + (2 : Nat) → (bif i.blt ((2 : Nat) * x.i) then rvH a i else [{ data := #[(105 : UInt8), (112 : UInt8), (54 : UInt8)] : ByteArray }, { data := #[(97 : UInt8), (114 : UInt8), (112 : UInt8), (97 : UInt8)] : ByteArray }].getD (i - (2 : Nat) * x.i) { data := #[] : ByteArray }).size ≤ (1000000 : Nat)) ∧ ljF (fun (i : Nat) => bif i.blt ((2 : Nat) * x.i) then rvH a i else [{ data := #[(105 : UInt8), (112 : UInt8), (54 : UInt8)] : ByteArray }, { data := #[(97 : UInt8), (114 : UInt8), (112 : UInt8), (97 : UInt8)] : ByteArray }].getD (i - (2 : Nat) * x.i) { data := #[] : ByteArray }) ((2 : Nat) * x.i + (2 : Nat)) = rev a))
theorem rvV_eq (a : Nat → Int) : rvV a = (funC cxr Tryd.f17 (mkSc (rvE a) (bodyOf Tryd.f17)) [adr a] (XT (rev a))) := by kernel_rfl
end Go.Proofs.YtghmlhdlkgjbeaaDoorAv
set_option linter.unusedVariables false
set_option linter.unusedSimpArgs false
set_option maxRecDepth 100000
namespace Go.Proofs.YtghmlhdlkgjbeaaDoorAv
open Go Go.RowKit
theorem sp_app (c : UInt8) (y : List UInt8) : ∀ x : List UInt8, split1 c (x ++ c :: y) = split1 c x ++ split1 c y
  | [] => by
    show split1 c (c :: y) = _
    conv => lhs; unfold split1
    rw [if_pos rfl]
    rfl
  | b :: x => by
    have ih := sp_app c y x
    have u : ∀ l : List UInt8, split1 c (b :: l) = if b = c then [] :: split1 c l else match split1 c l with | h :: t => (b :: h) :: t | [] => [[b]] := fun _ => rfl
    rw [List.cons_append, u, u]
    by_cases h : b = c
    · rw [if_pos h, if_pos h, ih]; rfl
    · rw [if_neg h, if_neg h, ih]
      cases hs : split1 c x with
      | nil => exact absurd hs (split1_ne c x)
      | cons p q => rfl
/-- A text that Print does not write is told so. -/
theorem parN_not {t : ByteArray} (h : ∀ a, b16 a → prn a ≠ t) : parN t = 5 := by
  refine if_neg fun e => ?_
  obtain ⟨a, ha, e⟩ := parOk_of t e
  exact h a ha e
theorem p4_46 (a : Nat → Int) (h4 : is4 a = true) : (46 : UInt8) ∈ (prn a).data.toList := by
  rw [prn_four a h4]
  simp
theorem p4_58 (a : Nat → Int) (ha : b16 a) (h4 : is4 a = true) : (58 : UInt8) ∉ (prn a).data.toList := by
  have n0 : (58 : UInt8) ∉ (prF a 0).data.toList := (itoa_bb (a 12) (ha 12 (by omega))).2.1.2
  have n1 : (58 : UInt8) ∉ (prF a 1).data.toList := (itoa_bb (a 13) (ha 13 (by omega))).2.1.2
  have n2 : (58 : UInt8) ∉ (prF a 2).data.toList := (itoa_bb (a 14) (ha 14 (by omega))).2.1.2
  have n3 : (58 : UInt8) ∉ (prF a 3).data.toList := (itoa_bb (a 15) (ha 15 (by omega))).2.1.2
  rw [prn_four a h4]
  simp only [List.mem_append, List.mem_cons, not_or]
  exact ⟨n0, by decide, n1, by decide, n2, by decide, n3⟩
theorem p6_58 (a : Nat → Int) (ha : b16 a) (h4 : is4 a = false) : (58 : UInt8) ∈ (prn a).data.toList := by
  rcases prn_six a ha h4 with ⟨h, -⟩ | ⟨b, r, hr, hbr, hz, h⟩
  · rw [h]
    show (58 : UInt8) ∈ cjn (hexL (gp a 0).toNat :: hexL (gp a 1).toNat :: _)
    rw [cjn_cons _ _ (by simp)]
    simp
  · rw [h]
    simp
theorem is4_by46 (a : Nat → Int) (ha : b16 a) (h : (46 : UInt8) ∈ (prn a).data.toList) : is4 a = true := by
  cases h4 : is4 a with
  | true => rfl
  | false => exact absurd h (prn_nodot a ha h4)
theorem is6_by58 (a : Nat → Int) (ha : b16 a) (h : (58 : UInt8) ∈ (prn a).data.toList) : is4 a = false := by
  cases h4 : is4 a with
  | true => exact absurd h (p4_58 a ha h4)
  | false => rfl
theorem sp4_len (a : Nat → Int) (ha : b16 a) (h4 : is4 a = true) : (split1 46 (prn a).data.toList).length = 4 := by
  have := fourP_prn a ha h4
  unfold fourP at this
  rw [splitS_one] at this
  have := congrArg List.length this
  rw [List.length_map] at this
  exact this
/-- .1 behind it. -/
theorem no_dot1 (a : Nat → Int) (ha : b16 a) : parN (prn a ++ ⟨#[46, 49]⟩) = 5 := parN_not fun a' ha' e => by
  have ed : (prn a').data.toList = (prn a).data.toList ++ 46 :: [49] := by rw [e, app_dt]
  have h4' := is4_by46 a' ha' (by rw [ed]; simp)
  cases h4 : is4 a with
  | true =>
    have l1 := sp4_len a ha h4
    have l2 := sp4_len a' ha' h4'
    rw [ed, sp_app, List.length_append, l1] at l2
    have : (split1 46 [49]).length = 1 := by decide
    omega
  | false =>
    refine p4_58 a' ha' h4' ?_
    rw [ed]
    exact List.mem_append_left _ (p6_58 a ha h4)
theorem clc_end : ∀ x : List UInt8, ¬ clc (x ++ [58])
  | [], h => by
    obtain ⟨d, l', h1, -⟩ := h.1 rfl
    cases h1
  | c :: x, h => clc_end x h.2
/-- A colon behind it. -/
theorem no_colon (a : Nat → Int) (ha : b16 a) : parN (prn a ++ ⟨#[58]⟩) = 5 := parN_not fun a' ha' e => by
  have ed : (prn a').data.toList = (prn a).data.toList ++ [58] := by rw [e, app_dt]
  have h6' := is6_by58 a' ha' (by rw [ed]; simp)
  have h6 : is4 a = false := by
    cases h4 : is4 a with
    | false => rfl
    | true => exact absurd (by rw [ed]; exact List.mem_append_left _ (p4_46 a h4)) (prn_nodot a' ha' h6')
  rcases prn_six a ha h6 with ⟨h, -⟩ | ⟨b, r, hr, hbr, -, h⟩
  · have hc := clc_cjn _ (gL_ok a ha 0 8 (by omega))
    rcases prn_six a' ha' h6' with ⟨h', -⟩ | ⟨b', r', hr', hbr', -, h'⟩
    · have hc' := clc_cjn _ (gL_ok a' ha' 0 8 (by omega))
      rw [← h', ed] at hc'
      exact clc_end _ hc'
    · have hy := clc_cjn _ (gL_ok a' ha' (b' + r') (8 - b' - r') (by omega))
      rw [h', h] at ed
      generalize cjn (gL a' (b' + r') (8 - b' - r')) = y at *
      rcases List.eq_nil_or_concat y with rfl | ⟨y', c, rfl⟩
      · have e2 : cjn (gL a' 0 b') ++ [58] = cjn (gL a 0 8) := by
          apply List.append_cancel_right (bs := [58])
          rw [← ed, List.append_assoc]
          rfl
        rw [← e2] at hc
        exact clc_end _ hc
      · have e2 : (cjn (gL a' 0 b') ++ 58 :: 58 :: y') ++ [c] = cjn (gL a 0 8) ++ [58] := by
          rw [← ed, List.append_assoc, List.concat_eq_append]
          rfl
        have e3 := (List.append_inj' e2 rfl).2
        have e3 : c = 58 := by simpa using e3
        rw [e3, List.concat_eq_append] at hy
        exact clc_end _ hy
  · have hx := clc_cjn _ (gL_ok a ha 0 b (by omega))
    have e1 : (prn a').data.toList = cjn (gL a 0 b) ++ 58 :: 58 :: (cjn (gL a (b + r) (8 - b - r)) ++ [58]) := by
      rw [ed, h, List.append_assoc]
      rfl
    have c1 := cut_at _ (cjn (gL a (b + r) (8 - b - r)) ++ [58]) hx
    rw [← e1] at c1
    rcases prn_six a' ha' h6' with ⟨h', -⟩ | ⟨b', r', hr', hbr', -, h'⟩
    · have c2 := cut_no _ (clc_cjn _ (gL_ok a' ha' 0 8 (by omega)))
      rw [← h', c1, Prod.mk.injEq, Prod.mk.injEq] at c2
      exact absurd c2.2.2 (by decide)
    · have c2 := cut_at _ (cjn (gL a' (b' + r') (8 - b' - r'))) (clc_cjn _ (gL_ok a' ha' 0 b' (by omega)))
      have hy := clc_cjn _ (gL_ok a' ha' (b' + r') (8 - b' - r') (by omega))
      rw [← h', c1] at c2
      rw [Prod.mk.injEq, Prod.mk.injEq] at c2
      rw [← c2.2.1] at hy
      exact clc_end _ hy
/-- What stands ahead of the first colon. -/
def fpc (l : List UInt8) : List UInt8 := l.takeWhile (· ≠ 58)
theorem fpc_app (x y : List UInt8) (h : (58 : UInt8) ∉ x) : fpc (x ++ 58 :: y) = x := by
  unfold fpc
  rw [List.takeWhile_append_of_pos (fun c hc => by simpa using fun e : c = 58 => h (e ▸ hc))]
  simp
theorem fpc_all (x : List UInt8) (h : (58 : UInt8) ∉ x) : fpc x = x := by
  have := fpc_app x [] h
  unfold fpc at this ⊢
  rw [List.takeWhile_append] at this
  split at this
  · rename_i hl
    exact (List.takeWhile_prefix _).eq_of_length hl
  · exact this
theorem fpc_cjn (x : List UInt8) (l : List (List UInt8)) (y : List UInt8) (h : (58 : UInt8) ∉ x) : fpc (cjn (x :: l) ++ 58 :: y) = x ∧ fpc (cjn (x :: l)) = x := by
  cases l with
  | nil => exact ⟨fpc_app x y h, fpc_all x h⟩
  | cons z l =>
    rw [cjn_cons x _ (by simp)]
    refine ⟨?_, fpc_app x _ h⟩
    rw [List.append_assoc]
    exact fpc_app x _ h
theorem gL_cons (a : Nat → Int) (m : Nat) : gL a 0 (m + 1) = hexL (gp a 0).toNat :: (gL a 1 m) := by
  unfold gL
  rw [List.range_succ_eq_map, List.map_cons, List.map_map]
  congr 1
  apply List.map_congr_left
  intro j _
  show hexL (gp a (0 + (j + 1))).toNat = _
  rw [show 0 + (j + 1) = 1 + j by omega]
theorem fpc_prn (a : Nat → Int) (ha : b16 a) (h4 : is4 a = false) : fpc (prn a).data.toList = [] ∨ fpc (prn a).data.toList = hexL (gp a 0).toNat := by
  have hn : (58 : UInt8) ∉ hexL (gp a 0).toNat := (hexL_no _ (by have := gp_b a ha 0 (by omega); omega)).1
  rcases prn_six a ha h4 with ⟨h, -⟩ | ⟨b, r, hr, hbr, -, h⟩
  · right
    rw [h, gL_cons a 7]
    exact (fpc_cjn _ _ [] hn).2
  · rw [h]
    cases b with
    | zero => left; rfl
    | succ b =>
      right
      rw [gL_cons a b]
      exact (fpc_cjn _ _ _ hn).1
theorem hexd_nz : ∀ k : Fin 16, k.val ≠ 0 → hexd k.val ≠ 48 := by decide
theorem hexL_nz (n : Nat) (hn : n < 65536) (p : List UInt8) (h : hexL n = 48 :: p) : p = [] := by
  by_cases h1 : n < 16
  · rw [hexL_1 n h1] at h
    simp at h
    exact h.2
  · exfalso
    by_cases h2 : n < 256
    · rw [hexL_2 n h1 h2] at h
      simp only [List.cons.injEq] at h
      exact hexd_nz ⟨n / 16, by omega⟩ (by show n / 16 ≠ 0; omega) h.1
    · by_cases h3 : n < 4096
      · rw [hexL_3 n h1 h2 h3] at h
        simp only [List.cons.injEq] at h
        exact hexd_nz ⟨n / 256, by omega⟩ (by show n / 256 ≠ 0; omega) h.1
      · rw [hexL_4 n h1 h2 h3] at h
        simp only [List.cons.injEq] at h
        exact hexd_nz ⟨n / 4096, by omega⟩ (by show n / 4096 ≠ 0; omega) h.1
theorem itoa_nz : ∀ x : Fin 256, (itoaB (x.val : Int)).data.toList.head? = some 48 → (itoaB (x.val : Int)).data.toList.length = 1 := by decide +kernel
/-- A nought ahead. -/
theorem no_nought (a : Nat → Int) (ha : b16 a) (h : (prn a).data.toList.getD 0 0 ≠ 58) : parN (⟨#[48]⟩ ++ prn a) = 5 := parN_not fun a' ha' e => by
  have ed : (prn a').data.toList = 48 :: (prn a).data.toList := by rw [e, app_dt]; rfl
  cases h4 : is4 a with
  | true =>
    have h4' := is4_by46 a' ha' (by rw [ed]; exact List.mem_cons_of_mem _ (p4_46 a h4))
    have i0 := itoa_bb (a 12) (ha 12 (by omega))
    have n0 : (46 : UInt8) ∉ (prF a 0).data.toList := i0.2.1.1
    have n0' : (46 : UInt8) ∉ (prF a' 0).data.toList := (itoa_bb (a' 12) (ha' 12 (by omega))).2.1.1
    rw [prn_four a h4, prn_four a' h4'] at ed
    have ed : (prF a' 0).data.toList ++ 46 :: ((prF a' 1).data.toList ++ 46 :: ((prF a' 2).data.toList ++ 46 :: (prF a' 3).data.toList)) = (48 :: (prF a 0).data.toList) ++ 46 :: ((prF a 1).data.toList ++ 46 :: ((prF a 2).data.toList ++ 46 :: (prF a 3).data.toList)) := ed
    have s1 := sp_at 46 ((prF a' 1).data.toList ++ 46 :: ((prF a' 2).data.toList ++ 46 :: (prF a' 3).data.toList)) (prF a' 0).data.toList n0'
    rw [ed, sp_at 46 _ _ (by simp only [List.mem_cons, not_or]; exact ⟨by decide, n0⟩)] at s1
    have s2 : 48 :: (prF a 0).data.toList = (prF a' 0).data.toList := (List.cons.inj s1).1
    have h1 := ha' 12 (by omega)
    have key := itoa_nz ⟨(a' 12).toNat, by omega⟩
    have ex : (((⟨(a' 12).toNat, by omega⟩ : Fin 256).val : Nat) : Int) = a' 12 := by
      show (((a' 12).toNat : Nat) : Int) = a' 12
      omega
    rw [ex] at key
    have s3 : (itoaB (a' 12)).data.toList = 48 :: (prF a 0).data.toList := s2.symm
    rw [s3] at key
    have := key rfl
    simp only [List.length_cons] at this
    exact i0.2.2 (List.length_eq_zero_iff.1 (by show (prF a 0).data.toList.length = 0; omega))
  | false =>
    have h6' := is6_by58 a' ha' (by rw [ed]; exact List.mem_cons_of_mem _ (p6_58 a ha h4))
    have f1 : fpc (prn a').data.toList = 48 :: fpc (prn a).data.toList := by
      rw [ed]
      unfold fpc
      rw [List.takeWhile_cons, if_pos (by decide)]
    rcases fpc_prn a' ha' h6' with f2 | f2
    · rw [f1] at f2; cases f2
    · rw [f1] at f2
      have hg := gp_b a' ha' 0 (by omega)
      have hp := hexL_nz _ (by omega) _ f2.symm
      cases hl : (prn a).data.toList with
      | nil =>
        have := p6_58 a ha h4
        rw [hl] at this
        cases this
      | cons c l =>
        rw [hl] at h hp
        have hc : c ≠ 58 := h
        unfold fpc at hp
        rw [List.takeWhile_cons, if_pos (by simpa using hc)] at hp
        cases hp
theorem no_nought2 (a : Nat → Int) (ha : b16 a) (h : (prn a).data.toList.getD 0 0 = 58) (t : ByteArray) (ht : t.data.toList = 48 :: 58 :: (prn a).data.toList) : parN t = 5 := parN_not fun a' ha' e => by
  have ed : (prn a').data.toList = 48 :: 58 :: (prn a).data.toList := by rw [e, ht]
  have h6' := is6_by58 a' ha' (by rw [ed]; simp)
  have h6 : is4 a = false := by
    cases h4 : is4 a with
    | false => rfl
    | true => exact absurd (by rw [ed]; exact List.mem_cons_of_mem _ (List.mem_cons_of_mem _ (p4_46 a h4))) (prn_nodot a' ha' h6')
  have hs : ∃ y, (prn a).data.toList = 58 :: 58 :: y := by
    rcases prn_six a ha h6 with ⟨h', -⟩ | ⟨b, r, hr, hbr, -, h'⟩
    · obtain ⟨d, l', e2, hd⟩ := cjn_head _ (gL_ok a ha 0 8 (by omega)) (by rw [gL_succ]; simp)
      rw [h', e2] at h
      exact absurd h hd
    · cases b with
      | zero => exact ⟨_, h'⟩
      | succ b =>
        obtain ⟨d, l', e2, hd⟩ := cjn_head _ (gL_ok a ha 0 (b + 1) (by omega)) (by rw [gL_succ]; simp)
        rw [h', e2] at h
        exact absurd h hd
  obtain ⟨y, hy⟩ := hs
  have c1 := cut_at [48] (58 :: y) ⟨fun e => absurd e (by decide), trivial⟩
  have e1 : [48] ++ 58 :: 58 :: 58 :: y = (prn a').data.toList := by rw [ed, hy]; rfl
  rw [e1] at c1
  rcases prn_six a' ha' h6' with ⟨h', -⟩ | ⟨b', r', hr', hbr', -, h'⟩
  · have c2 := cut_no _ (clc_cjn _ (gL_ok a' ha' 0 8 (by omega)))
    rw [← h', c1, Prod.mk.injEq, Prod.mk.injEq] at c2
    exact absurd c2.2.2 (by decide)
  · have c2 := cut_at _ (cjn (gL a' (b' + r') (8 - b' - r'))) (clc_cjn _ (gL_ok a' ha' 0 b' (by omega)))
    rw [← h', c1, Prod.mk.injEq, Prod.mk.injEq] at c2
    by_cases hm : gL a' (b' + r') (8 - b' - r') = []
    · rw [hm] at c2
      cases c2.2.1
    · obtain ⟨d, l', e2, hd⟩ := cjn_head _ (gL_ok a' ha' (b' + r') (8 - b' - r') (by omega)) hm
      rw [e2, List.cons.injEq] at c2
      exact hd c2.2.1.1.symm
/-- The signs that Print writes. -/
def pch (c : UInt8) : Prop := c = 46 ∨ c = 58 ∨ ∃ k, k < 16 ∧ c = hexd k
theorem itoa_ch : ∀ x : Fin 256, ∀ c ∈ (itoaB (x.val : Int)).data.toList, (48 : UInt8) ≤ c ∧ c ≤ 57 := by decide +kernel
theorem dig_hexd : ∀ c : Fin 256, 48 ≤ c.val → c.val ≤ 57 → UInt8.ofNat c.val = hexd (c.val - 48) := by decide
theorem dig_pch (c : UInt8) (h : (48 : UInt8) ≤ c ∧ c ≤ 57) : pch c := by
  have h1 : 48 ≤ c.toNat := UInt8.le_iff_toNat_le.1 h.1
  have h2 : c.toNat ≤ 57 := UInt8.le_iff_toNat_le.1 h.2
  have := dig_hexd ⟨c.toNat, by omega⟩ h1 h2
  refine .inr (.inr ⟨c.toNat - 48, by omega, ?_⟩)
  rw [← this]
  simp
theorem itoa_chB (x : Int) (h : 0 ≤ x ∧ x ≤ 255) : ∀ c ∈ (itoaB x).data.toList, (48 : UInt8) ≤ c ∧ c ≤ 57 := by
  have := itoa_ch ⟨x.toNat, by omega⟩
  have e : (((⟨x.toNat, by omega⟩ : Fin 256).val : Nat) : Int) = x := by
    show ((x.toNat : Nat) : Int) = x
    omega
  rw [e] at this
  exact this
theorem cjn_pch : ∀ l : List (List UInt8), (∀ x ∈ l, ∀ c ∈ x, pch c) → ∀ c ∈ cjn l, pch c
  | [], _, c, hc => by cases hc
  | [x], h, c, hc => h x (by simp) c hc
  | x :: y :: l, h, c, hc => by
    rw [cjn_cons x _ (by simp)] at hc
    rcases List.mem_append.1 hc with hc | hc
    · exact h x (by simp) c hc
    · rcases List.mem_cons.1 hc with hc | hc
      · exact .inr (.inl hc)
      · exact cjn_pch (y :: l) (fun z hz => h z (List.mem_cons_of_mem _ hz)) c hc
theorem gL_pch (a : Nat → Int) (ha : b16 a) (i m : Nat) (h : i + m ≤ 8) : ∀ x ∈ gL a i m, ∀ c ∈ x, pch c := fun x hx c hc => by
  obtain ⟨j, hj, rfl⟩ := List.mem_map.1 hx
  have := List.mem_range.1 hj
  have hg := gp_b a ha (i + j) (by omega)
  exact .inr (.inr (hexL_mem _ (by omega) c hc))
theorem prn_pch (a : Nat → Int) (ha : b16 a) : ∀ c ∈ (prn a).data.toList, pch c := fun c hc => by
  cases h4 : is4 a with
  | true =>
    have i : ∀ j, j < 4 → ∀ c ∈ (prF a j).data.toList, pch c := fun j hj c hc => dig_pch c (itoa_chB _ (ha (12 + j) (by omega)) c hc)
    rw [prn_four a h4] at hc
    simp only [List.mem_append, List.mem_cons] at hc
    rcases hc with hc | hc | hc | hc | hc | hc | hc
    · exact i 0 (by omega) c hc
    · exact .inl hc
    · exact i 1 (by omega) c hc
    · exact .inl hc
    · exact i 2 (by omega) c hc
    · exact .inl hc
    · exact i 3 (by omega) c hc
  | false =>
    rcases prn_six a ha h4 with ⟨h, -⟩ | ⟨b, r, hr, hbr, -, h⟩
    · rw [h] at hc
      exact cjn_pch _ (gL_pch a ha 0 8 (by omega)) c hc
    · rw [h] at hc
      rcases List.mem_append.1 hc with hc | hc
      · exact cjn_pch _ (gL_pch a ha 0 b (by omega)) c hc
      · rcases List.mem_cons.1 hc with hc | hc
        · exact .inr (.inl hc)
        · rcases List.mem_cons.1 hc with hc | hc
          · exact .inr (.inl hc)
          · exact cjn_pch _ (gL_pch a ha (b + r) (8 - b - r) (by omega)) c hc
theorem hexd_cap : ∀ k : Fin 16, ¬ (65 ≤ (hexd k.val).toNat ∧ (hexd k.val).toNat ≤ 70) := by decide
theorem pch_cap (c : UInt8) (h : pch c) : ¬ (65 ≤ c.toNat ∧ c.toNat ≤ 70) := by
  rcases h with rfl | rfl | ⟨k, hk, rfl⟩
  · decide
  · decide
  · exact hexd_cap ⟨k, hk⟩
/-- Capitals. -/
theorem no_caps (t : ByteArray) (c : UInt8) (hc : c ∈ t.data.toList) (h : 65 ≤ c.toNat ∧ c.toNat ≤ 70) : parN t = 5 := parN_not fun a ha e => by
  rw [← e] at hc
  exact pch_cap c (prn_pch a ha c hc) h
end Go.Proofs.YtghmlhdlkgjbeaaDoorAv
set_option linter.unusedVariables false
set_option linter.unusedSimpArgs false
set_option maxRecDepth 100000
namespace Go.Proofs.YtghmlhdlkgjbeaaDoorAv
open Go Go.RowKit
theorem ljF_split (g : Nat → ByteArray) : ∀ n, (∀ i, i < n + 1 → (46 : UInt8) ∉ (g i).data.toList) → split1 46 (ljF g (n + 1)).data.toList = (List.range (n + 1)).map fun i => (g i).data.toList
  | 0, h => by
    have e : (ljF g 1).data.toList = (g 0).data.toList := by
      rw [ljF, if_neg (by omega), app_dt]
      rfl
    rw [e, sp_no 46 _ (h 0 (by omega))]
    rfl
  | n + 1, h => by
    have ih := ljF_split g n (fun i hi => h i (by omega))
    have e : (ljF g (n + 1 + 1)).data.toList = (ljF g (n + 1)).data.toList ++ 46 :: (g (n + 1)).data.toList := by
      rw [ljF, if_pos (by omega), app_dt, app_dt, List.append_assoc]
      rfl
    rw [e, sp_app, ih, sp_no 46 _ (h (n + 1) (by omega)), List.range_succ (n := n + 1), List.map_append]
    rfl
theorem ljF_splitS (g : Nat → ByteArray) (n : Nat) (h : ∀ i, i < n + 1 → (46 : UInt8) ∉ (g i).data.toList) : splitS (ljF g (n + 1)) ⟨#[46]⟩ = (List.range (n + 1)).map g := by
  rw [splitS_one, ljF_split g n h, List.map_map]
  apply List.map_congr_left
  intro i _
  exact data_mk8 _
theorem andB15 (x : Int) (h : 0 ≤ x ∧ x ≤ 255) : bits .and .u8 x 15 = ((x.toNat % 16 : Nat) : Int) := by
  have := u8_and15 (x := x) h.1 (by omega)
  rw [this]
  omega
theorem div16 (x : Int) (h : 0 ≤ x ∧ x ≤ 255) : x.fdiv (2 ^ 4) = ((x.toNat / 16 : Nat) : Int) := by
  rw [Int.fdiv_eq_ediv_of_nonneg _ (by decide)]
  have : (2 : Int) ^ 4 = 16 := rfl
  rw [this]
  omega
/-- A half of a byte. -/
def nib (a : Nat → Int) (j : Nat) : Nat := if j % 2 = 0 then (a (15 - j / 2)).toNat % 16 else (a (15 - j / 2)).toNat / 16
theorem nib_lt (a : Nat → Int) (ha : b16 a) (j : Nat) : nib a j < 16 := by
  have := ha (15 - j / 2) (by omega)
  unfold nib
  split <;> omega
theorem rvH_nib (a : Nat → Int) (ha : b16 a) (j : Nat) : rvH a j = hexB (nib a j) := by
  have h := ha (15 - j / 2) (by omega)
  unfold rvH nib
  rw [andB15 _ h, div16 _ h]
  split <;> rw [Int.toNat_natCast]
theorem rvH_data (a : Nat → Int) (ha : b16 a) (j : Nat) : (rvH a j).data.toList = [hexd (nib a j)] := by
  rw [rvH_nib a ha j, hexB_data, hexL_1 _ (nib_lt a ha j)]
theorem rvG_no (a : Nat → Int) (ha : b16 a) (j : Nat) : (46 : UInt8) ∉ (rvG a j).data.toList := by
  unfold rvG
  split
  · rw [rvH_data a ha j]
    have := (hexd_lt _ (nib_lt a ha j)).2.1
    simpa using fun e => this e.symm
  · split <;> decide
theorem rvF_no (a : Nat → Int) (ha : b16 a) (j : Nat) : (46 : UInt8) ∉ (rvF a j).data.toList := by
  unfold rvF
  split
  · exact (itoa_bb _ (ha (15 - j) (by omega))).2.1.1
  · split <;> decide
/-- The parts of a reverse name. -/
def revL (a : Nat → Int) : List ByteArray := if is4 a = true then (List.range 6).map (rvF a) else (List.range 34).map (rvG a)
theorem rev_split (a : Nat → Int) (ha : b16 a) : splitS (rev a) ⟨#[46]⟩ = revL a := by
  unfold rev revL
  split
  · exact ljF_splitS _ 5 fun i _ => rvF_no a ha i
  · exact ljF_splitS _ 33 fun i _ => rvG_no a ha i
theorem rev_ext {a b : Nat → Int} (h : ∀ k, k < 16 → a k = b k) : rev a = rev b := by
  have e1 : ∀ n, ljF (rvF a) n = ljF (rvF b) n := fun n => by
    have : rvF a = rvF b := by
      funext j
      unfold rvF
      rw [h (15 - j) (by omega)]
    rw [this]
  have e2 : ∀ n, ljF (rvG a) n = ljF (rvG b) n := fun n => by
    have : rvG a = rvG b := by
      funext j
      unfold rvG rvH
      rw [h (15 - j / 2) (by omega)]
    rw [this]
  unfold rev
  rw [is4_ext h, e1, e2]
theorem hexd_inj : ∀ i j : Fin 16, hexd i.val = hexd j.val → i = j := by decide
theorem rev_inj (a b : Nat → Int) (ha : b16 a) (hb : b16 b) (h : rev a = rev b) (k : Nat) (hk : k < 16) : a k = b k := by
  have hl : revL a = revL b := by rw [← rev_split a ha, ← rev_split b hb, h]
  unfold revL at hl
  cases h4 : is4 a with
  | true =>
    rw [h4, if_pos rfl] at hl
    cases h5 : is4 b with
    | false =>
      rw [h5, if_neg (by decide)] at hl
      have := congrArg List.length hl
      simp at this
    | true =>
      rw [h5, if_pos rfl] at hl
      have key : ∀ j, j < 4 → a (15 - j) = b (15 - j) := fun j hj => by
        have e := congrArg (fun l => l[j]?) hl
        simp only [List.getElem?_map, List.getElem?_range (show j < 6 by omega), Option.map_some, Option.some.injEq] at e
        unfold rvF at e
        rw [if_pos hj, if_pos hj] at e
        have p1 := (itoa_bb _ (ha (15 - j) (by omega))).1
        have p2 := (itoa_bb _ (hb (15 - j) (by omega))).1
        rw [e, p2] at p1
        have := (Prod.mk.inj p1).2
        have r1 := ha (15 - j) (by omega)
        have r2 := hb (15 - j) (by omega)
        omega
      obtain ⟨x1, x2, x3⟩ := is4_at a h4
      obtain ⟨y1, y2, y3⟩ := is4_at b h5
      by_cases k10 : k < 10
      · rw [x1 k k10, y1 k k10]
      · by_cases k12 : k < 12
        · have : k = 10 ∨ k = 11 := by omega
          rcases this with rfl | rfl
          · rw [x2, y2]
          · rw [x3, y3]
        · have := key (15 - k) (by omega)
          rwa [show 15 - (15 - k) = k by omega] at this
  | false =>
    rw [h4, if_neg (by decide)] at hl
    cases h5 : is4 b with
    | true =>
      rw [h5, if_pos rfl] at hl
      have := congrArg List.length hl
      simp at this
    | false =>
      rw [h5, if_neg (by decide)] at hl
      have key : ∀ j, j < 32 → nib a j = nib b j := fun j hj => by
        have e := congrArg (fun l => l[j]?) hl
        simp only [List.getElem?_map, List.getElem?_range (show j < 34 by omega), Option.map_some, Option.some.injEq] at e
        unfold rvG at e
        rw [if_pos hj, if_pos hj] at e
        have e2 := congrArg (·.data.toList) e
        simp only [rvH_data a ha j, rvH_data b hb j, List.cons.injEq, and_true] at e2
        have := hexd_inj ⟨_, nib_lt a ha j⟩ ⟨_, nib_lt b hb j⟩ e2
        exact congrArg Fin.val this
      have n0 := key (2 * (15 - k)) (by omega)
      have n1 := key (2 * (15 - k) + 1) (by omega)
      unfold nib at n0 n1
      rw [if_pos (by omega), if_pos (by omega), show 15 - 2 * (15 - k) / 2 = k by omega] at n0
      rw [if_neg (by omega), if_neg (by omega), show 15 - (2 * (15 - k) + 1) / 2 = k by omega] at n1
      have r1 := ha k hk
      have r2 := hb k hk
      omega
/-- The first four parts, the other way about, are the address's text. -/
theorem rev_prn (a : Nat → Int) (h4 : is4 a = true) (g : Nat → ByteArray) (h0 : g 0 = rvF a 3) (h1 : g 1 = rvF a 2) (h2 : g 2 = rvF a 1) (h3 : g 3 = rvF a 0) : ljF g 4 = prn a := by
  apply data_inj
  rw [prn_four a h4]
  have e : (ljF g 4).data.toList = (g 0).data.toList ++ 46 :: ((g 1).data.toList ++ 46 :: ((g 2).data.toList ++ 46 :: (g 3).data.toList)) := by
    simp only [ljF, Nat.lt_irrefl, if_false, Nat.zero_lt_succ, if_true, app_dt]
    simp
  rw [e, h0, h1, h2, h3]
  rfl
theorem digs16 : ∀ k : Fin 16, sbyte ⟨#[48, 49, 50, 51, 52, 53, 54, 55, 56, 57, 97, 98, 99, 100, 101, 102]⟩ (k.val : Int) = ((hexd k.val).toNat : Int) := by decide
theorem ljF_ext (g h : Nat → ByteArray) : ∀ n, (∀ i, i < n → g i = h i) → ljF g n = ljF h n
  | 0, _ => rfl
  | n + 1, e => by rw [ljF, ljF, ljF_ext g h n (fun i hi => e i (by omega)), e n (by omega)]
theorem rvH_size (a : Nat → Int) (j : Nat) : (rvH a j).size ≤ 4 := by
  unfold rvH
  split <;> exact hexB_size _
theorem itoa_sz (x : Int) (h : 0 ≤ x ∧ x ≤ 255) : (itoaB x).size ≤ 1000000 := by
  have := itoaB_byte ⟨x.toNat, by omega⟩
  have e : (((⟨x.toNat, by omega⟩ : Fin 256).val : Nat) : Int) = x := by
    show ((x.toNat : Nat) : Int) = x
    omega
  rw [e] at this
  omega
theorem rv_v (a : Nat → Int) (ha : b16 a) : rvV a := by
  have hb := g16b a ha
  unfold rvV
  have el : (is4 fun i => [a 0, a 1, a 2, a 3, a 4, a 5, a 6, a 7, a 8, a 9, a 10, a 11, a 12, a 13, a 14, a 15].getD i 0) = is4 a := is4_ext fun k hk => get16 a k hk
  rw [el]
  have e6 : ∀ i, i < 6 → (bif i.blt 4 then bif i.blt 3 then bif i.blt 2 then bif i.blt 1 then itoaB ([a 0, a 1, a 2, a 3, a 4, a 5, a 6, a 7, a 8, a 9, a 10, a 11, a 12, a 13, a 14, a 15].getD 15 0) else itoaB ([a 0, a 1, a 2, a 3, a 4, a 5, a 6, a 7, a 8, a 9, a 10, a 11, a 12, a 13, a 14, a 15].getD 14 0) else itoaB ([a 0, a 1, a 2, a 3, a 4, a 5, a 6, a 7, a 8, a 9, a 10, a 11, a 12, a 13, a 14, a 15].getD 13 0) else itoaB ([a 0, a 1, a 2, a 3, a 4, a 5, a 6, a 7, a 8, a 9, a 10, a 11, a 12, a 13, a 14, a 15].getD 12 0) else [(⟨#[105, 110, 45, 97, 100, 100, 114]⟩ : ByteArray), ⟨#[97, 114, 112, 97]⟩].getD (i - 4) ⟨#[]⟩) = rvF a i := fun i hi => by
    match i, hi with
    | 0, _ => rfl
    | 1, _ => rfl
    | 2, _ => rfl
    | 3, _ => rfl
    | 4, _ => rfl
    | 5, _ => rfl
    | i + 6, hi => exact absurd hi (by omega)
  refine ⟨fun h4 => ?_, fun h4 => ⟨⟨⟨0⟩, Nat.zero_le _, rfl, rfl, rfl, rfl, rfl, ?_, ⟨⟨rfl, rfl, rfl⟩, rfl, fun j hj => absurd hj (by omega)⟩, trivial⟩, ?_⟩⟩
  · have h4 : is4 a = true := h4
    refine ⟨by omega, by omega, by show 15 < 16; omega, in64_b (hb _), (hb _).1, Int.le_trans (hb _).2 (by decide), rfl, by omega, by omega, by unfold in64; omega, by omega, by omega, by show 14 < 16; omega, in64_b (hb _), (hb _).1, Int.le_trans (hb _).2 (by decide), rfl, by omega, by omega, by unfold in64; omega, by omega, by omega, by show 13 < 16; omega, in64_b (hb _), (hb _).1, Int.le_trans (hb _).2 (by decide), rfl, by omega, by omega, by unfold in64; omega, by omega, by omega, by show 12 < 16; omega, in64_b (hb _), (hb _).1, Int.le_trans (hb _).2 (by decide), rfl, by omega, by omega, by unfold in64; omega, rfl, by omega, by omega, rfl, fun _ _ => rfl, by omega, fun i hi => ?_, ?_⟩
    · rw [e6 i hi]
      unfold rvF
      split
      · exact itoa_sz _ (ha (15 - i) (by omega))
      · split
        · show 7 ≤ 1000000; omega
        · show 4 ≤ 1000000; omega
    · rw [ljF_ext _ (rvF a) 6 e6]
      unfold rev
      rw [if_pos h4]
  · and_intros <;> first | with_reducible rfl | trivial
  · rintro ⟨i⟩ hi
    have hi : i ≤ 16 := hi
    refine ⟨fun h => ?_, fun h => ?_⟩
    · have h : (15 : Int) - (i : Int) ≥ 0 := of_decide_eq_true h
      have e : ((15 : Int) - (i : Int)).toNat = 15 - i := by omega
      have hx := ha (15 - i) (by omega)
      dsimp only
      rw [e, get16 a (15 - i) (by omega)]
      have b1 := andB15 _ hx
      have b2 := div16 _ hx
      have hl : (a (15 - i)).toNat < 256 := by omega
      refine ⟨by omega, by omega, by show 15 - i < 16; omega, by rw [b1]; unfold in64; omega, by rw [b1]; omega, by rw [b1]; omega, rfl, by omega, by omega, by show 15 - i < 16; omega, by rw [b2]; unfold in64; omega, by rw [b2]; omega, by rw [b2]; omega, rfl, rfl, by omega, by omega, by unfold in64; omega, ⟨i + 1⟩, by show i + 1 ≤ 16; omega, by show 16 - (i + 1) < 16 - i; omega, rfl, rfl, rfl, ?_, ?_, ?_, ⟨⟨rfl, rfl, rfl⟩, ?_, fun j hj => ?_⟩, trivial⟩
      · show XV.sl 1 1 0 (2 * i + 2) = XV.sl 1 1 0 (2 * (i + 1))
        rw [show 2 * (i + 1) = 2 * i + 2 by omega]
      · show (15 : Int) - i - 1 = 15 - ((i + 1 : Nat) : Int)
        omega
      · and_intros <;> first | with_reducible rfl | trivial
      · show 2 * i + 2 = 2 * (i + 1)
        omega
      · refine congrArg (fun x => [XT x]) ?_
        rw [bltN]
        by_cases h1 : j < 2 * i
        · rw [decide_eq_true h1, cond_true]
        · rw [decide_eq_false h1, cond_false]
          unfold rvH
          by_cases h2 : j = 2 * i
          · subst h2
            rw [Nat.sub_self, if_pos (by omega), show 15 - 2 * i / 2 = 15 - i by omega]
            rfl
          · have h3 : j = 2 * i + 1 := by omega
            subst h3
            rw [show 2 * i + 1 - 2 * i = 1 by omega, if_neg (by omega), show 15 - (2 * i + 1) / 2 = 15 - i by omega]
            rfl
    · have h : ¬ (15 : Int) - (i : Int) ≥ 0 := of_decide_eq_false h
      obtain rfl : i = 16 := by omega
      have eg : ∀ j, j < 2 * 16 + 2 → (bif j.blt (2 * 16) then rvH a j else [(⟨#[105, 112, 54]⟩ : ByteArray), ⟨#[97, 114, 112, 97]⟩].getD (j - 2 * 16) ⟨#[]⟩) = rvG a j := fun j hj => by
        rw [bltN]
        unfold rvG
        by_cases h1 : j < 2 * 16
        · rw [decide_eq_true h1, cond_true, if_pos h1]
        · rw [decide_eq_false h1, cond_false, if_neg h1]
          by_cases h2 : j = 32
          · subst h2; rfl
          · have h3 : j = 33 := by omega
            subst h3
            rfl
      refine ⟨rfl, by dsimp only; omega, by dsimp only; omega, rfl, fun _ _ => rfl, by dsimp only; omega, fun j hj => ?_, ?_⟩
      · dsimp only at hj ⊢
        rw [eg j hj]
        unfold rvG
        have := rvH_size a j
        split
        · omega
        · split
          · show 3 ≤ 1000000; omega
          · show 4 ≤ 1000000; omega
      · dsimp only
        rw [ljF_ext _ (rvG a) (2 * 16 + 2) eg]
        unfold rev
        rw [if_neg (by rw [show is4 a = false from h4]; decide)]
def revC : CT := C1 dAL (fun g => [b16 g]) fun g => XT (rev g)
theorem rev_ok : CTok Tryd.prog 17 revC := C1_ok cxr_ok Tryd.func17 rfl (by decide) dAL_eq.ok (by kernel_rfl) (fun _ => rfl) fun g hc => exv (rvV_eq g) (rv_v g (hc (b16 g) (.head _)))
end Go.Proofs.YtghmlhdlkgjbeaaDoorAv
set_option linter.unusedVariables false
set_option linter.unusedSimpArgs false
set_option maxRecDepth 100000
namespace Go.Proofs.YtghmlhdlkgjbeaaDoorAv
open Go Go.RowKit
/-- The parts, none behind the last one. -/
def rvX (a : Nat → Int) (j : Nat) : ByteArray := if j < 34 then rvG a j else ⟨#[]⟩
def cxs : Cx := { cx0 with C := [(11, fitC), (14, is4L), (17, revC), (18, lspC), (19, ljnC), (13, prnC)] }
theorem cxs_ok : cxs.ok Tryd.prog := (((((cx0_ok.addC pr_ok).addC ljn_ok).addC lsp_ok).addC rev_ok).addC is4L_ok).addC fit_ok
def rsR (a b : Nat → Int) : List (Nat × XRow) := [(0, .one 23 true (adr a).cells), (1, .one 23 true (adr b).cells)]
def rs9 (a b : Nat → Int) : Inv where
  σ := IR
  S := fun x => ⟨[(2, .ptr 0 0 0 0), (4, XB false), (7, .fz 34 1 fun j => [XT (rvX a j)])], rsR a b, 2, false, []⟩
  inv := fun x => True
  μ := fun x => 0
def rsI (a b : Nat → Int) : Inv where
  σ := IR
  S := fun x => ⟨[(2, .ptr 0 0 0 0), (4, XB false), (7, .fz 34 1 fun j => [XT (rvX a j)]), (73, XI x.i)], rsR a b, 2, false, []⟩
  inv := fun x => x.i ≤ 32
  μ := fun x => 32 - x.i
def rsE (a b : Nat → Int) : Env := { loops := [(0, rsI a b)], cuts := [(9, rs9 a b)] }
def revsV (a b : Nat → Int) : Prop :=
  ((!true) = true → false = true) ∧ ((!true) = false → (b16 fun (i : Nat) => [a (0 : Nat), a (1 : Nat), a (2 : Nat), a (3 : Nat), a (4 : Nat), a (5 : Nat), a (6 : Nat), a (7 : Nat), a (8 : Nat), a (9 : Nat), a (10 : Nat), a (11 : Nat), a (12 : Nat), a (13 : Nat), a (14 : Nat), a (15 : Nat)].getD i (0 : Int)) ∧ (b16 fun (i : Nat) => [b (0 : Nat), b (1 : Nat), b (2 : Nat), b (3 : Nat), b (4 : Nat), b (5 : Nat), b (6 : Nat), b (7 : Nat), b (8 : Nat), b (9 : Nat), b (10 : Nat), b (11 : Nat), b (12 : Nat), b (13 : Nat), b (14 : Nat), b (15 : Nat)].getD i (0 : Int)) ∧ (rev fun (i : Nat) => [a (0 : Nat), a (1 : Nat), a (2 : Nat), a (3 : Nat), a (4 : Nat), a (5 : Nat), a (6 : Nat), a (7 : Nat), a (8 : Nat), a (9 : Nat), a (10 : Nat), a (11 : Nat), a (12 : Nat), a (13 : Nat), a (14 : Nat), a (15 : Nat)].getD i (0 : Int)).size ≤ (1000000000 : Nat) ∧ ((!!decide ((rev fun (i : Nat) => [a (0 : Nat), a (1 : Nat), a (2 : Nat), a (3 : Nat), a (4 : Nat), a (5 : Nat), a (6 : Nat), a (7 : Nat), a (8 : Nat), a (9 : Nat), a (10 : Nat), a (11 : Nat), a (12 : Nat), a (13 : Nat), a (14 : Nat), a (15 : Nat)].getD i (0 : Int)) = rev fun (i : Nat) => [b (0 : Nat), b (1 : Nat), b (2 : Nat), b (3 : Nat), b (4 : Nat), b (5 : Nat), b (6 : Nat), b (7 : Nat), b (8 : Nat), b (9 : Nat), b (10 : Nat), b (11 : Nat), b (12 : Nat), b (13 : Nat), b (14 : Nat), b (15 : Nat)].getD i (0 : Int)) == (a (0 : Nat) == b (0 : Nat) && (a (1 : Nat) == b (1 : Nat) && (a (2 : Nat) == b (2 : Nat) && (a (3 : Nat) == b (3 : Nat) && (a (4 : Nat) == b (4 : Nat) && (a (5 : Nat) == b (5 : Nat) && (a (6 : Nat) == b (6 : Nat) && (a (7 : Nat) == b (7 : Nat) && (a (8 : Nat) == b (8 : Nat) && (a (9 : Nat) == b (9 : Nat) && (a (10 : Nat) == b (10 : Nat) && (a (11 : Nat) == b (11 : Nat) && (a (12 : Nat) == b (12 : Nat) && (a (13 : Nat) == b (13 : Nat) && (a (14 : Nat) == b (14 : Nat) && (a (15 : Nat) == b (15 : Nat) && true))))))))))))))))) = true → in64 ((↑(splitS (rev fun (i : Nat) => [a (0 : Nat), a (1 : Nat), a (2 : Nat), a (3 : Nat), a (4 : Nat), a (5 : Nat), a (6 : Nat), a (7 : Nat), a (8 : Nat), a (9 : Nat), a (10 : Nat), a (11 : Nat), a (12 : Nat), a (13 : Nat), a (14 : Nat), a (15 : Nat)].getD i (0 : Int)) { data := #[(46 : UInt8)] : ByteArray }).length : Int) - (1 : Int))) ∧ ((!!decide ((rev fun (i : Nat) => [a (0 : Nat), a (1 : Nat), a (2 : Nat), a (3 : Nat), a (4 : Nat), a (5 : Nat), a (6 : Nat), a (7 : Nat), a (8 : Nat), a (9 : Nat), a (10 : Nat), a (11 : Nat), a (12 : Nat), a (13 : Nat), a (14 : Nat), a (15 : Nat)].getD i (0 : Int)) = rev fun (i : Nat) => [b (0 : Nat), b (1 : Nat), b (2 : Nat), b (3 : Nat), b (4 : Nat), b (5 : Nat), b (6 : Nat), b (7 : Nat), b (8 : Nat), b (9 : Nat), b (10 : Nat), b (11 : Nat), b (12 : Nat), b (13 : Nat), b (14 : Nat), b (15 : Nat)].getD i (0 : Int)) == (a (0 : Nat) == b (0 : Nat) && (a (1 : Nat) == b (1 : Nat) && (a (2 : Nat) == b (2 : Nat) && (a (3 : Nat) == b (3 : Nat) && (a (4 : Nat) == b (4 : Nat) && (a (5 : Nat) == b (5 : Nat) && (a (6 : Nat) == b (6 : Nat) && (a (7 : Nat) == b (7 : Nat) && (a (8 : Nat) == b (8 : Nat) && (a (9 : Nat) == b (9 : Nat) && (a (10 : Nat) == b (10 : Nat) && (a (11 : Nat) == b (11 : Nat) && (a (12 : Nat) == b (12 : Nat) && (a (13 : Nat) == b (13 : Nat) && (a (14 : Nat) == b (14 : Nat) && (a (15 : Nat) == b (15 : Nat) && true))))))))))))))))) = true → (0 : Int) ≤ (↑(splitS (rev fun (i : Nat) => [a (0 : Nat), a (1 : Nat), a (2 : Nat), a (3 : Nat), a (4 : Nat), a (5 : Nat), a (6 : Nat), a (7 : Nat), a (8 : Nat), a (9 : Nat), a (10 : Nat), a (11 : Nat), a (12 : Nat), a (13 : Nat), a (14 : Nat), a (15 : Nat)].getD i (0 : Int)) { data := #[(46 : UInt8)] : ByteArray }).length : Int) - (1 : Int)) ∧ ((!!decide ((rev fun (i : Nat) => [a (0 : Nat), a (1 : Nat), a (2 : Nat), a (3 : Nat), a (4 : Nat), a (5 : Nat), a (6 : Nat), a (7 : Nat), a (8 : Nat), a (9 : Nat), a (10 : Nat), a (11 : Nat), a (12 : Nat), a (13 : Nat), a (14 : Nat), a (15 : Nat)].getD i (0 : Int)) = rev fun (i : Nat) => [b (0 : Nat), b (1 : Nat), b (2 : Nat), b (3 : Nat), b (4 : Nat), b (5 : Nat), b (6 : Nat), b (7 : Nat), b (8 : Nat), b (9 : Nat), b (10 : Nat), b (11 : Nat), b (12 : Nat), b (13 : Nat), b (14 : Nat), b (15 : Nat)].getD i (0 : Int)) == (a (0 : Nat) == b (0 : Nat) && (a (1 : Nat) == b (1 : Nat) && (a (2 : Nat) == b (2 : Nat) && (a (3 : Nat) == b (3 : Nat) && (a (4 : Nat) == b (4 : Nat) && (a (5 : Nat) == b (5 : Nat) && (a (6 : Nat) == b (6 : Nat) && (a (7 : Nat) == b (7 : Nat) && (a (8 : Nat) == b (8 : Nat) && (a (9 : Nat) == b (9 : Nat) && (a (10 : Nat) == b (10 : Nat) && (a (11 : Nat) == b (11 : Nat) && (a (12 : Nat) == b (12 : Nat) && (a (13 : Nat) == b (13 : Nat) && (a (14 : Nat) == b (14 : Nat) && (a (15 : Nat) == b (15 : Nat) && true))))))))))))))))) = true → (↑(splitS (rev fun (i : Nat) => [a (0 : Nat), a (1 : Nat), a (2 : Nat), a (3 : Nat), a (4 : Nat), a (5 : Nat), a (6 : Nat), a (7 : Nat), a (8 : Nat), a (9 : Nat), a (10 : Nat), a (11 : Nat), a (12 : Nat), a (13 : Nat), a (14 : Nat), a (15 : Nat)].getD i (0 : Int)) { data := #[(46 : UInt8)] : ByteArray }).length : Int) - (1 : Int) < (↑(splitS (rev fun (i : Nat) => [a (0 : Nat), a (1 : Nat), a (2 : Nat), a (3 : Nat), a (4 : Nat), a (5 : Nat), a (6 : Nat), a (7 : Nat), a (8 : Nat), a (9 : Nat), a (10 : Nat), a (11 : Nat), a (12 : Nat), a (13 : Nat), a (14 : Nat), a (15 : Nat)].getD i (0 : Int)) { data := #[(46 : UInt8)] : ByteArray }).length : Int)) ∧ ((!decide ((rev fun (i : Nat) => [a (0 : Nat), a (1 : Nat), a (2 : Nat), a (3 : Nat), a (4 : Nat), a (5 : Nat), a (6 : Nat), a (7 : Nat), a (8 : Nat), a (9 : Nat), a (10 : Nat), a (11 : Nat), a (12 : Nat), a (13 : Nat), a (14 : Nat), a (15 : Nat)].getD i (0 : Int)) = rev fun (i : Nat) => [b (0 : Nat), b (1 : Nat), b (2 : Nat), b (3 : Nat), b (4 : Nat), b (5 : Nat), b (6 : Nat), b (7 : Nat), b (8 : Nat), b (9 : Nat), b (10 : Nat), b (11 : Nat), b (12 : Nat), b (13 : Nat), b (14 : Nat), b (15 : Nat)].getD i (0 : Int)) == (a (0 : Nat) == b (0 : Nat) && (a (1 : Nat) == b (1 : Nat) && (a (2 : Nat) == b (2 : Nat) && (a (3 : Nat) == b (3 : Nat) && (a (4 : Nat) == b (4 : Nat) && (a (5 : Nat) == b (5 : Nat) && (a (6 : Nat) == b (6 : Nat) && (a (7 : Nat) == b (7 : Nat) && (a (8 : Nat) == b (8 : Nat) && (a (9 : Nat) == b (9 : Nat) && (a (10 : Nat) == b (10 : Nat) && (a (11 : Nat) == b (11 : Nat) && (a (12 : Nat) == b (12 : Nat) && (a (13 : Nat) == b (13 : Nat) && (a (14 : Nat) == b (14 : Nat) && (a (15 : Nat) == b (15 : Nat) && true)))))))))))))))) || !decide ((splitS (rev fun (i : Nat) => [a (0 : Nat), a (1 : Nat), a (2 : Nat), a (3 : Nat), a (4 : Nat), a (5 : Nat), a (6 : Nat), a (7 : Nat), a (8 : Nat), a (9 : Nat), a (10 : Nat), a (11 : Nat), a (12 : Nat), a (13 : Nat), a (14 : Nat), a (15 : Nat)].getD i (0 : Int)) { data := #[(46 : UInt8)] : ByteArray }).getD ((↑(splitS (rev fun (i : Nat) => [a (0 : Nat), a (1 : Nat), a (2 : Nat), a (3 : Nat), a (4 : Nat), a (5 : Nat), a (6 : Nat), a (7 : Nat), a (8 : Nat), a (9 : Nat), a (10 : Nat), a (11 : Nat), a (12 : Nat), a (13 : Nat), a (14 : Nat), a (15 : Nat)].getD i (0 : Int)) { data := #[(46 : UInt8)] : ByteArray }).length : Int) - (1 : Int)).toNat { data := #[] : ByteArray } = { data := #[(97 : UInt8), (114 : UInt8), (112 : UInt8), (97 : UInt8)] : ByteArray })) = true → false = true) ∧ ((!decide ((rev fun (i : Nat) => [a (0 : Nat), a (1 : Nat), a (2 : Nat), a (3 : Nat), a (4 : Nat), a (5 : Nat), a (6 : Nat), a (7 : Nat), a (8 : Nat), a (9 : Nat), a (10 : Nat), a (11 : Nat), a (12 : Nat), a (13 : Nat), a (14 : Nat), a (15 : Nat)].getD i (0 : Int)) = rev fun (i : Nat) => [b (0 : Nat), b (1 : Nat), b (2 : Nat), b (3 : Nat), b (4 : Nat), b (5 : Nat), b (6 : Nat), b (7 : Nat), b (8 : Nat), b (9 : Nat), b (10 : Nat), b (11 : Nat), b (12 : Nat), b (13 : Nat), b (14 : Nat), b (15 : Nat)].getD i (0 : Int)) == (a (0 : Nat) == b (0 : Nat) && (a (1 : Nat) == b (1 : Nat) && (a (2 : Nat) == b (2 : Nat) && (a (3 : Nat) == b (3 : Nat) && (a (4 : Nat) == b (4 : Nat) && (a (5 : Nat) == b (5 : Nat) && (a (6 : Nat) == b (6 : Nat) && (a (7 : Nat) == b (7 : Nat) && (a (8 : Nat) == b (8 : Nat) && (a (9 : Nat) == b (9 : Nat) && (a (10 : Nat) == b (10 : Nat) && (a (11 : Nat) == b (11 : Nat) && (a (12 : Nat) == b (12 : Nat) && (a (13 : Nat) == b (13 : Nat) && (a (14 : Nat) == b (14 : Nat) && (a (15 : Nat) == b (15 : Nat) && true)))))))))))))))) || !decide ((splitS (rev fun (i : Nat) => [a (0 : Nat), a (1 : Nat), a (2 : Nat), a (3 : Nat), a (4 : Nat), a (5 : Nat), a (6 : Nat), a (7 : Nat), a (8 : Nat), a (9 : Nat), a (10 : Nat), a (11 : Nat), a (12 : Nat), a (13 : Nat), a (14 : Nat), a (15 : Nat)].getD i (0 : Int)) { data := #[(46 : UInt8)] : ByteArray }).getD ((↑(splitS (rev fun (i : Nat) => [a (0 : Nat), a (1 : Nat), a (2 : Nat), a (3 : Nat), a (4 : Nat), a (5 : Nat), a (6 : Nat), a (7 : Nat), a (8 : Nat), a (9 : Nat), a (10 : Nat), a (11 : Nat), a (12 : Nat), a (13 : Nat), a (14 : Nat), a (15 : Nat)].getD i (0 : Int)) { data := #[(46 : UInt8)] : ByteArray }).length : Int) - (1 : Int)).toNat { data := #[] : ByteArray } = { data := #[(97 : UInt8), (114 : UInt8), (112 : UInt8), (97 : UInt8)] : ByteArray })) = false → (((is4 fun (i : Nat) => [a (0 : Nat), a (1 : Nat), a (2 : Nat), a (3 : Nat), a (4 : Nat), a (5 : Nat), a (6 : Nat), a (7 : Nat), a (8 : Nat), a (9 : Nat), a (10 : Nat), a (11 : Nat), a (12 : Nat), a (13 : Nat), a (14 : Nat), a (15 : Nat)].getD i (0 : Int)) = true → (((↑(splitS (rev fun (i : Nat) => [a (0 : Nat), a (1 : Nat), a (2 : Nat), a (3 : Nat), a (4 : Nat), a (5 : Nat), a (6 : Nat), a (7 : Nat), a (8 : Nat), a (9 : Nat), a (10 : Nat), a (11 : Nat), a (12 : Nat), a (13 : Nat), a (14 : Nat), a (15 : Nat)].getD i (0 : Int)) { data := #[(46 : UInt8)] : ByteArray }).length : Int) == (6 : Int)) = true → (0 : Int) ≤ (4 : Int)) ∧ (((↑(splitS (rev fun (i : Nat) => [a (0 : Nat), a (1 : Nat), a (2 : Nat), a (3 : Nat), a (4 : Nat), a (5 : Nat), a (6 : Nat), a (7 : Nat), a (8 : Nat), a (9 : Nat), a (10 : Nat), a (11 : Nat), a (12 : Nat), a (13 : Nat), a (14 : Nat), a (15 : Nat)].getD i (0 : Int)) { data := #[(46 : UInt8)] : ByteArray }).length : Int) == (6 : Int)) = true → (4 : Int) < (↑(splitS (rev fun (i : Nat) => [a (0 : Nat), a (1 : Nat), a (2 : Nat), a (3 : Nat), a (4 : Nat), a (5 : Nat), a (6 : Nat), a (7 : Nat), a (8 : Nat), a (9 : Nat), a (10 : Nat), a (11 : Nat), a (12 : Nat), a (13 : Nat), a (14 : Nat), a (15 : Nat)].getD i (0 : Int)) { data := #[(46 : UInt8)] : ByteArray }).length : Int)) ∧ (((↑(splitS (rev fun (i : Nat) => [a (0 : Nat), a (1 : Nat), a (2 : Nat), a (3 : Nat), a (4 : Nat), a (5 : Nat), a (6 : Nat), a (7 : Nat), a (8 : Nat), a (9 : Nat), a (10 : Nat), a (11 : Nat), a (12 : Nat), a (13 : Nat), a (14 : Nat), a (15 : Nat)].getD i (0 : Int)) { data := #[(46 : UInt8)] : ByteArray }).length : Int) == (6 : Int) && decide ((splitS (rev fun (i : Nat) => [a (0 : Nat), a (1 : Nat), a (2 : Nat), a (3 : Nat), a (4 : Nat), a (5 : Nat), a (6 : Nat), a (7 : Nat), a (8 : Nat), a (9 : Nat), a (10 : Nat), a (11 : Nat), a (12 : Nat), a (13 : Nat), a (14 : Nat), a (15 : Nat)].getD i (0 : Int)) { data := #[(46 : UInt8)] : ByteArray }).getD ((4 : Nat)) { data := #[] : ByteArray } = { data := #[(105 : UInt8), (110 : UInt8), (45 : UInt8), (97 : UInt8), (100 : UInt8), (100 : UInt8), (114 : UInt8)] : ByteArray })) = true → (0 : Int) ≤ (3 : Int)) ∧ (((↑(splitS (rev fun (i : Nat) => [a (0 : Nat), a (1 : Nat), a (2 : Nat), a (3 : Nat), a (4 : Nat), a (5 : Nat), a (6 : Nat), a (7 : Nat), a (8 : Nat), a (9 : Nat), a (10 : Nat), a (11 : Nat), a (12 : Nat), a (13 : Nat), a (14 : Nat), a (15 : Nat)].getD i (0 : Int)) { data := #[(46 : UInt8)] : ByteArray }).length : Int) == (6 : Int) && decide ((splitS (rev fun (i : Nat) => [a (0 : Nat), a (1 : Nat), a (2 : Nat), a (3 : Nat), a (4 : Nat), a (5 : Nat), a (6 : Nat), a (7 : Nat), a (8 : Nat), a (9 : Nat), a (10 : Nat), a (11 : Nat), a (12 : Nat), a (13 : Nat), a (14 : Nat), a (15 : Nat)].getD i (0 : Int)) { data := #[(46 : UInt8)] : ByteArray }).getD ((4 : Nat)) { data := #[] : ByteArray } = { data := #[(105 : UInt8), (110 : UInt8), (45 : UInt8), (97 : UInt8), (100 : UInt8), (100 : UInt8), (114 : UInt8)] : ByteArray })) = true → (3 : Int) < (↑(splitS (rev fun (i : Nat) => [a (0 : Nat), a (1 : Nat), a (2 : Nat), a (3 : Nat), a (4 : Nat), a (5 : Nat), a (6 : Nat), a (7 : Nat), a (8 : Nat), a (9 : Nat), a (10 : Nat), a (11 : Nat), a (12 : Nat), a (13 : Nat), a (14 : Nat), a (15 : Nat)].getD i (0 : Int)) { data := #[(46 : UInt8)] : ByteArray }).length : Int)) ∧ (((↑(splitS (rev fun (i : Nat) => [a (0 : Nat), a (1 : Nat), a (2 : Nat), a (3 : Nat), a (4 : Nat), a (5 : Nat), a (6 : Nat), a (7 : Nat), a (8 : Nat), a (9 : Nat), a (10 : Nat), a (11 : Nat), a (12 : Nat), a (13 : Nat), a (14 : Nat), a (15 : Nat)].getD i (0 : Int)) { data := #[(46 : UInt8)] : ByteArray }).length : Int) == (6 : Int) && decide ((splitS (rev fun (i : Nat) => [a (0 : Nat), a (1 : Nat), a (2 : Nat), a (3 : Nat), a (4 : Nat), a (5 : Nat), a (6 : Nat), a (7 : Nat), a (8 : Nat), a (9 : Nat), a (10 : Nat), a (11 : Nat), a (12 : Nat), a (13 : Nat), a (14 : Nat), a (15 : Nat)].getD i (0 : Int)) { data := #[(46 : UInt8)] : ByteArray }).getD ((4 : Nat)) { data := #[] : ByteArray } = { data := #[(105 : UInt8), (110 : UInt8), (45 : UInt8), (97 : UInt8), (100 : UInt8), (100 : UInt8), (114 : UInt8)] : ByteArray })) = true → (0 : Int) ≤ (2 : Int)) ∧ (((↑(splitS (rev fun (i : Nat) => [a (0 : Nat), a (1 : Nat), a (2 : Nat), a (3 : Nat), a (4 : Nat), a (5 : Nat), a (6 : Nat), a (7 : Nat), a (8 : Nat), a (9 : Nat), a (10 : Nat), a (11 : Nat), a (12 : Nat), a (13 : Nat), a (14 : Nat), a (15 : Nat)].getD i (0 : Int)) { data := #[(46 : UInt8)] : ByteArray }).length : Int) == (6 : Int) && decide ((splitS (rev fun (i : Nat) => [a (0 : Nat), a (1 : Nat), a (2 : Nat), a (3 : Nat), a (4 : Nat), a (5 : Nat), a (6 : Nat), a (7 : Nat), a (8 : Nat), a (9 : Nat), a (10 : Nat), a (11 : Nat), a (12 : Nat), a (13 : Nat), a (14 : Nat), a (15 : Nat)].getD i (0 : Int)) { data := #[(46 : UInt8)] : ByteArray }).getD ((4 : Nat)) { data := #[] : ByteArray } = { data := #[(105 : UInt8), (110 : UInt8), (45 : UInt8), (97 : UInt8), (100 : UInt8), (100 : UInt8), (114 : UInt8)] : ByteArray })) = true → (2 : Int) < (↑(splitS (rev fun (i : Nat) => [a (0 : Nat), a (1 : Nat), a (2 : Nat), a (3 : Nat), a (4 : Nat), a (5 : Nat), a (6 : Nat), a (7 : Nat), a (8 : Nat), a (9 : Nat), a (10 : Nat), a (11 : Nat), a (12 : Nat), a (13 : Nat), a (14 : Nat), a (15 : Nat)].getD i (0 : Int)) { data := #[(46 : UInt8)] : ByteArray }).length : Int)) ∧ (((↑(splitS (rev fun (i : Nat) => [a (0 : Nat), a (1 : Nat), a (2 : Nat), a (3 : Nat), a (4 : Nat), a (5 : Nat), a (6 : Nat), a (7 : Nat), a (8 : Nat), a (9 : Nat), a (10 : Nat), a (11 : Nat), a (12 : Nat), a (13 : Nat), a (14 : Nat), a (15 : Nat)].getD i (0 : Int)) { data := #[(46 : UInt8)] : ByteArray }).length : Int) == (6 : Int) && decide ((splitS (rev fun (i : Nat) => [a (0 : Nat), a (1 : Nat), a (2 : Nat), a (3 : Nat), a (4 : Nat), a (5 : Nat), a (6 : Nat), a (7 : Nat), a (8 : Nat), a (9 : Nat), a (10 : Nat), a (11 : Nat), a (12 : Nat), a (13 : Nat), a (14 : Nat), a (15 : Nat)].getD i (0 : Int)) { data := #[(46 : UInt8)] : ByteArray }).getD ((4 : Nat)) { data := #[] : ByteArray } = { data := #[(105 : UInt8), (110 : UInt8), (45 : UInt8), (97 : UInt8), (100 : UInt8), (100 : UInt8), (114 : UInt8)] : ByteArray })) = true → (0 : Int) ≤ (1 : Int)) ∧ (((↑(splitS (rev fun (i : Nat) => [a (0 : Nat), a (1 : Nat), a (2 : Nat), a (3 : Nat), a (4 : Nat), a (5 : Nat), a (6 : Nat), a (7 : Nat), a (8 : Nat), a (9 : Nat), a (10 : Nat), a (11 : Nat), a (12 : Nat), a (13 : Nat), a (14 : Nat), a (15 : Nat)].getD i (0 : Int)) { data := #[(46 : UInt8)] : ByteArray }).length : Int) == (6 : Int) && decide ((splitS (rev fun (i : Nat) => [a (0 : Nat), a (1 : Nat), a (2 : Nat), a (3 : Nat), a (4 : Nat), a (5 : Nat), a (6 : Nat), a (7 : Nat), a (8 : Nat), a (9 : Nat), a (10 : Nat), a (11 : Nat), a (12 : Nat), a (13 : Nat), a (14 : Nat), a (15 : Nat)].getD i (0 : Int)) { data := #[(46 : UInt8)] : ByteArray }).getD ((4 : Nat)) { data := #[] : ByteArray } = { data := #[(105 : UInt8), (110 : UInt8), (45 : UInt8), (97 : UInt8), (100 : UInt8), (100 : UInt8), (114 : UInt8)] : ByteArray })) = true → (1 : Int) < (↑(splitS (rev fun (i : Nat) => [a (0 : Nat), a (1 : Nat), a (2 : Nat), a (3 : Nat), a (4 : Nat), a (5 : Nat), a (6 : Nat), a (7 : Nat), a (8 : Nat), a (9 : Nat), a (10 : Nat), a (11 : Nat), a (12 : Nat), a (13 : Nat), a (14 : Nat), a (15 : Nat)].getD i (0 : Int)) { data := #[(46 : UInt8)] : ByteArray }).length : Int)) ∧ (((↑(splitS (rev fun (i : Nat) => [a (0 : Nat), a (1 : Nat), a (2 : Nat), a (3 : Nat), a (4 : Nat), a (5 : Nat), a (6 : Nat), a (7 : Nat), a (8 : Nat), a (9 : Nat), a (10 : Nat), a (11 : Nat), a (12 : Nat), a (13 : Nat), a (14 : Nat), a (15 : Nat)].getD i (0 : Int)) { data := #[(46 : UInt8)] : ByteArray }).length : Int) == (6 : Int) && decide ((splitS (rev fun (i : Nat) => [a (0 : Nat), a (1 : Nat), a (2 : Nat), a (3 : Nat), a (4 : Nat), a (5 : Nat), a (6 : Nat), a (7 : Nat), a (8 : Nat), a (9 : Nat), a (10 : Nat), a (11 : Nat), a (12 : Nat), a (13 : Nat), a (14 : Nat), a (15 : Nat)].getD i (0 : Int)) { data := #[(46 : UInt8)] : ByteArray }).getD ((4 : Nat)) { data := #[] : ByteArray } = { data := #[(105 : UInt8), (110 : UInt8), (45 : UInt8), (97 : UInt8), (100 : UInt8), (100 : UInt8), (114 : UInt8)] : ByteArray })) = true → (0 : Int) ≤ (0 : Int)) ∧ (((↑(splitS (rev fun (i : Nat) => [a (0 : Nat), a (1 : Nat), a (2 : Nat), a (3 : Nat), a (4 : Nat), a (5 : Nat), a (6 : Nat), a (7 : Nat), a (8 : Nat), a (9 : Nat), a (10 : Nat), a (11 : Nat), a (12 : Nat), a (13 : Nat), a (14 : Nat), a (15 : Nat)].getD i (0 : Int)) { data := #[(46 : UInt8)] : ByteArray }).length : Int) == (6 : Int) && decide ((splitS (rev fun (i : Nat) => [a (0 : Nat), a (1 : Nat), a (2 : Nat), a (3 : Nat), a (4 : Nat), a (5 : Nat), a (6 : Nat), a (7 : Nat), a (8 : Nat), a (9 : Nat), a (10 : Nat), a (11 : Nat), a (12 : Nat), a (13 : Nat), a (14 : Nat), a (15 : Nat)].getD i (0 : Int)) { data := #[(46 : UInt8)] : ByteArray }).getD ((4 : Nat)) { data := #[] : ByteArray } = { data := #[(105 : UInt8), (110 : UInt8), (45 : UInt8), (97 : UInt8), (100 : UInt8), (100 : UInt8), (114 : UInt8)] : ByteArray })) = true → (0 : Int) < (↑(splitS (rev fun (i : Nat) => [a (0 : Nat), a (1 : Nat), a (2 : Nat), a (3 : Nat), a (4 : Nat), a (5 : Nat), a (6 : Nat), a (7 : Nat), a (8 : Nat), a (9 : Nat), a (10 : Nat), a (11 : Nat), a (12 : Nat), a (13 : Nat), a (14 : Nat), a (15 : Nat)].getD i (0 : Int)) { data := #[(46 : UInt8)] : ByteArray }).length : Int)) ∧ (((↑(splitS (rev fun (i : Nat) => [a (0 : Nat), a (1 : Nat), a (2 : Nat), a (3 : Nat), a (4 : Nat), a (5 : Nat), a (6 : Nat), a (7 : Nat), a (8 : Nat), a (9 : Nat), a (10 : Nat), a (11 : Nat), a (12 : Nat), a (13 : Nat), a (14 : Nat), a (15 : Nat)].getD i (0 : Int)) { data := #[(46 : UInt8)] : ByteArray }).length : Int) == (6 : Int) && decide ((splitS (rev fun (i : Nat) => [a (0 : Nat), a (1 : Nat), a (2 : Nat), a (3 : Nat), a (4 : Nat), a (5 : Nat), a (6 : Nat), a (7 : Nat), a (8 : Nat), a (9 : Nat), a (10 : Nat), a (11 : Nat), a (12 : Nat), a (13 : Nat), a (14 : Nat), a (15 : Nat)].getD i (0 : Int)) { data := #[(46 : UInt8)] : ByteArray }).getD ((4 : Nat)) { data := #[] : ByteArray } = { data := #[(105 : UInt8), (110 : UInt8), (45 : UInt8), (97 : UInt8), (100 : UInt8), (100 : UInt8), (114 : UInt8)] : ByteArray })) = true → ∀ (i : Nat), i < (4 : Nat) → [XT ([(splitS (rev fun (i : Nat) => [a (0 : Nat), a (1 : Nat), a (2 : Nat), a (3 : Nat), a (4 : Nat), a (5 : Nat), a (6 : Nat), a (7 : Nat), a (8 : Nat), a (9 : Nat), a (10 : Nat), a (11 : Nat), a (12 : Nat), a (13 : Nat), a (14 : Nat), a (15 : Nat)].getD i (0 : Int)) { data := #[(46 : UInt8)] : ByteArray }).getD ((3 : Nat)) { data := #[] : ByteArray }, (splitS (rev fun (i : Nat) => [a (0 : Nat), a (1 : Nat), a (2 : Nat), a (3 : Nat), a (4 : Nat), a (5 : Nat), a (6 : Nat), a (7 : Nat), a (8 : Nat), a (9 : Nat), a (10 : Nat), a (11 : Nat), a (12 : Nat), a (13 : Nat), a (14 : Nat), a (15 : Nat)].getD i (0 : Int)) { data := #[(46 : UInt8)] : ByteArray }).getD ((2 : Nat)) { data := #[] : ByteArray }, (splitS (rev fun (i : Nat) => [a (0 : Nat), a (1 : Nat), a (2 : Nat), a (3 : Nat), a (4 : Nat), a (5 : Nat), a (6 : Nat), a (7 : Nat), a (8 : Nat), a (9 : Nat), a (10 : Nat), a (11 : Nat), a (12 : Nat), a (13 : Nat), a (14 : Nat), a (15 : Nat)].getD i (0 : Int)) { data := #[(46 : UInt8)] : ByteArray }).getD ((1 : Nat)) { data := #[] : ByteArray }, (splitS (rev fun (i : Nat) => [a (0 : Nat), a (1 : Nat), a (2 : Nat), a (3 : Nat), a (4 : Nat), a (5 : Nat), a (6 : Nat), a (7 : Nat), a (8 : Nat), a (9 : Nat), a (10 : Nat), a (11 : Nat), a (12 : Nat), a (13 : Nat), a (14 : Nat), a (15 : Nat)].getD i (0 : Int)) { data := #[(46 : UInt8)] : ByteArray }).getD ((0 : Nat)) { data := #[] : ByteArray }].getD i { data := #[] : ByteArray })] = [XT ([(splitS (rev fun (i : Nat) => [a (0 : Nat), a (1 : Nat), a (2 : Nat), a (3 : Nat), a (4 : Nat), a (5 : Nat), a (6 : Nat), a (7 : Nat), a (8 : Nat), a (9 : Nat), a (10 : Nat), a (11 : Nat), a (12 : Nat), a (13 : Nat), a (14 : Nat), a (15 : Nat)].getD i (0 : Int)) { data := #[(46 : UInt8)] : ByteArray }).getD ((3 : Nat)) { data := #[] : ByteArray }, (splitS (rev fun (i : Nat) => [a (0 : Nat), a (1 : Nat), a (2 : Nat), a (3 : Nat), a (4 : Nat), a (5 : Nat), a (6 : Nat), a (7 : Nat), a (8 : Nat), a (9 : Nat), a (10 : Nat), a (11 : Nat), a (12 : Nat), a (13 : Nat), a (14 : Nat), a (15 : Nat)].getD i (0 : Int)) { data := #[(46 : UInt8)] : ByteArray }).getD ((2 : Nat)) { data := #[] : ByteArray }, (splitS (rev fun (i : Nat) => [a (0 : Nat), a (1 : Nat), a (2 : Nat), a (3 : Nat), a (4 : Nat), a (5 : Nat), a (6 : Nat), a (7 : Nat), a (8 : Nat), a (9 : Nat), a (10 : Nat), a (11 : Nat), a (12 : Nat), a (13 : Nat), a (14 : Nat), a (15 : Nat)].getD i (0 : Int)) { data := #[(46 : UInt8)] : ByteArray }).getD ((1 : Nat)) { data := #[] : ByteArray }, (splitS (rev fun (i : Nat) => [a (0 : Nat), a (1 : Nat), a (2 : Nat), a (3 : Nat), a (4 : Nat), a (5 : Nat), a (6 : Nat), a (7 : Nat), a (8 : Nat), a (9 : Nat), a (10 : Nat), a (11 : Nat), a (12 : Nat), a (13 : Nat), a (14 : Nat), a (15 : Nat)].getD i (0 : Int)) { data := #[(46 : UInt8)] : ByteArray }).getD ((0 : Nat)) { data := #[] : ByteArray }].getD i { data := #[] : ByteArray })]) ∧ (((↑(splitS (rev fun (i : Nat) => [a (0 : Nat), a (1 : Nat), a (2 : Nat), a (3 : Nat), a (4 : Nat), a (5 : Nat), a (6 : Nat), a (7 : Nat), a (8 : Nat), a (9 : Nat), a (10 : Nat), a (11 : Nat), a (12 : Nat), a (13 : Nat), a (14 : Nat), a (15 : Nat)].getD i (0 : Int)) { data := #[(46 : UInt8)] : ByteArray }).length : Int) == (6 : Int) && decide ((splitS (rev fun (i : Nat) => [a (0 : Nat), a (1 : Nat), a (2 : Nat), a (3 : Nat), a (4 : Nat), a (5 : Nat), a (6 : Nat), a (7 : Nat), a (8 : Nat), a (9 : Nat), a (10 : Nat), a (11 : Nat), a (12 : Nat), a (13 : Nat), a (14 : Nat), a (15 : Nat)].getD i (0 : Int)) { data := #[(46 : UInt8)] : ByteArray }).getD ((4 : Nat)) { data := #[] : ByteArray } = { data := #[(105 : UInt8), (110 : UInt8), (45 : UInt8), (97 : UInt8), (100 : UInt8), (100 : UInt8), (114 : UInt8)] : ByteArray })) = true → (4 : Nat) ≤ (1000 : Nat)) ∧ (((↑(splitS (rev fun (i : Nat) => [a (0 : Nat), a (1 : Nat), a (2 : Nat), a (3 : Nat), a (4 : Nat), a (5 : Nat), a (6 : Nat), a (7 : Nat), a (8 : Nat), a (9 : Nat), a (10 : Nat), a (11 : Nat), a (12 : Nat), a (13 : Nat), a (14 : Nat), a (15 : Nat)].getD i (0 : Int)) { data := #[(46 : UInt8)] : ByteArray }).length : Int) == (6 : Int) && decide ((splitS (rev fun (i : Nat) => [a (0 : Nat), a (1 : Nat), a (2 : Nat), a (3 : Nat), a (4 : Nat), a (5 : Nat), a (6 : Nat), a (7 : Nat), a (8 : Nat), a (9 : Nat), a (10 : Nat), a (11 : Nat), a (12 : Nat), a (13 : Nat), a (14 : Nat), a (15 : Nat)].getD i (0 : Int)) { data := #[(46 : UInt8)] : ByteArray }).getD ((4 : Nat)) { data := #[] : ByteArray } = { data := #[(105 : UInt8), (110 : UInt8), (45 : UInt8), (97 : UInt8), (100 : UInt8), (100 : UInt8), (114 : UInt8)] : ByteArray })) = true → ∀ (i : Nat), i < (4 : Nat) → ([(splitS (rev fun (i : Nat) => [a (0 : Nat), a (1 : Nat), a (2 : Nat), a (3 : Nat), a (4 : Nat), a (5 : Nat), a (6 : Nat), a (7 : Nat), a (8 : Nat), a (9 : Nat), a (10 : Nat), a (11 : Nat), a (12 : Nat), a (13 : Nat), a (14 : Nat), a (15 : Nat)].getD i (0 : Int)) { data := #[(46 : UInt8)] : ByteArray }).getD ((3 : Nat)) { data := #[] : ByteArray }, (splitS (rev fun (i : Nat) => [a (0 : Nat), a (1 : Nat), a (2 : Nat), a (3 : Nat), a (4 : Nat), a (5 : Nat), a (6 : Nat), a (7 : Nat), a (8 : Nat), a (9 : Nat), a (10 : Nat), a (11 : Nat), a (12 : Nat), a (13 : Nat), a (14 : Nat), a (15 : Nat)].getD i (0 : Int)) { data := #[(46 : UInt8)] : ByteArray }).getD ((2 : Nat)) { data := #[] : ByteArray }, (splitS (rev fun (i : Nat) => [a (0 : Nat), a (1 : Nat), a (2 : Nat), a (3 : Nat), a (4 : Nat), a (5 : Nat), a (6 : Nat), a (7 : Nat), a (8 : Nat), a (9 : Nat), a (10 : Nat), a (11 : Nat), a (12 : Nat), a (13 : Nat), a (14 : Nat), a (15 : Nat)].getD i (0 : Int)) { data := #[(46 : UInt8)] : ByteArray }).getD ((1 : Nat)) { data := #[] : ByteArray }, (splitS (rev fun (i : Nat) => [a (0 : Nat), a (1 : Nat), a (2 : Nat), a (3 : Nat), a (4 : Nat), a (5 : Nat), a (6 : Nat), a (7 : Nat), a (8 : Nat), a (9 : Nat), a (10 : Nat), a (11 : Nat), a (12 : Nat), a (13 : Nat), a (14 : Nat), a (15 : Nat)].getD i (0 : Int)) { data := #[(46 : UInt8)] : ByteArray }).getD ((0 : Nat)) { data := #[] : ByteArray }].getD i { data := #[] : ByteArray }).size ≤ (1000000 : Nat)) ∧ (((↑(splitS (rev fun (i : Nat) => [a (0 : Nat), a (1 : Nat), a (2 : Nat), a (3 : Nat), a (4 : Nat), a (5 : Nat), a (6 : Nat), a (7 : Nat), a (8 : Nat), a (9 : Nat), a (10 : Nat), a (11 : Nat), a (12 : Nat), a (13 : Nat), a (14 : Nat), a (15 : Nat)].getD i (0 : Int)) { data := #[(46 : UInt8)] : ByteArray }).length : Int) == (6 : Int) && decide ((splitS (rev fun (i : Nat) => [a (0 : Nat), a (1 : Nat), a (2 : Nat), a (3 : Nat), a (4 : Nat), a (5 : Nat), a (6 : Nat), a (7 : Nat), a (8 : Nat), a (9 : Nat), a (10 : Nat), a (11 : Nat), a (12 : Nat), a (13 : Nat), a (14 : Nat), a (15 : Nat)].getD i (0 : Int)) { data := #[(46 : UInt8)] : ByteArray }).getD ((4 : Nat)) { data := #[] : ByteArray } = { data := #[(105 : UInt8), (110 : UInt8), (45 : UInt8), (97 : UInt8), (100 : UInt8), (100 : UInt8), (114 : UInt8)] : ByteArray })) = true → ((↑(splitS (rev fun (i : Nat) => [a (0 : Nat), a (1 : Nat), a (2 : Nat), a (3 : Nat), a (4 : Nat), a (5 : Nat), a (6 : Nat), a (7 : Nat), a (8 : Nat), a (9 : Nat), a (10 : Nat), a (11 : Nat), a (12 : Nat), a (13 : Nat), a (14 : Nat), a (15 : Nat)].getD i (0 : Int)) { data := #[(46 : UInt8)] : ByteArray }).length : Int) == (6 : Int) && decide ((splitS (rev fun (i : Nat) => [a (0 : Nat), a (1 : Nat), a (2 : Nat), a (3 : Nat), a (4 : Nat), a (5 : Nat), a (6 : Nat), a (7 : Nat), a (8 : Nat), a (9 : Nat), a (10 : Nat), a (11 : Nat), a (12 : Nat), a (13 : Nat), a (14 : Nat), a (15 : Nat)].getD i (0 : Int)) { data := #[(46 : UInt8)] : ByteArray }).getD ((4 : Nat)) { data := #[] : ByteArray } = { data := #[(105 : UInt8), (110 : UInt8), (45 : UInt8), (97 : UInt8), (100 : UInt8), (100 : UInt8), (114 : UInt8)] : ByteArray })) = true) ∧ (((↑(splitS (rev fun (i : Nat) => [a (0 : Nat), a (1 : Nat), a (2 : Nat), a (3 : Nat), a (4 : Nat), a (5 : Nat), a (6 : Nat), a (7 : Nat), a (8 : Nat), a (9 : Nat), a (10 : Nat), a (11 : Nat), a (12 : Nat), a (13 : Nat), a (14 : Nat), a (15 : Nat)].getD i (0 : Int)) { data := #[(46 : UInt8)] : ByteArray }).length : Int) == (6 : Int) && decide ((splitS (rev fun (i : Nat) => [a (0 : Nat), a (1 : Nat), a (2 : Nat), a (3 : Nat), a (4 : Nat), a (5 : Nat), a (6 : Nat), a (7 : Nat), a (8 : Nat), a (9 : Nat), a (10 : Nat), a (11 : Nat), a (12 : Nat), a (13 : Nat), a (14 : Nat), a (15 : Nat)].getD i (0 : Int)) { data := #[(46 : UInt8)] : ByteArray }).getD ((4 : Nat)) { data := #[] : ByteArray } = { data := #[(105 : UInt8), (110 : UInt8), (45 : UInt8), (97 : UInt8), (100 : UInt8), (100 : UInt8), (114 : UInt8)] : ByteArray })) = true → b16 fun (i : Nat) => [a (0 : Nat), a (1 : Nat), a (2 : Nat), a (3 : Nat), a (4 : Nat), a (5 : Nat), a (6 : Nat), a (7 : Nat), a (8 : Nat), a (9 : Nat), a (10 : Nat), a (11 : Nat), a (12 : Nat), a (13 : Nat), a (14 : Nat), a (15 : Nat)].getD i (0 : Int)) ∧ (((↑(splitS (rev fun (i : Nat) => [a (0 : Nat), a (1 : Nat), a (2 : Nat), a (3 : Nat), a (4 : Nat), a (5 : Nat), a (6 : Nat), a (7 : Nat), a (8 : Nat), a (9 : Nat), a (10 : Nat), a (11 : Nat), a (12 : Nat), a (13 : Nat), a (14 : Nat), a (15 : Nat)].getD i (0 : Int)) { data := #[(46 : UInt8)] : ByteArray }).length : Int) == (6 : Int) && decide ((splitS (rev fun (i : Nat) => [a (0 : Nat), a (1 : Nat), a (2 : Nat), a (3 : Nat), a (4 : Nat), a (5 : Nat), a (6 : Nat), a (7 : Nat), a (8 : Nat), a (9 : Nat), a (10 : Nat), a (11 : Nat), a (12 : Nat), a (13 : Nat), a (14 : Nat), a (15 : Nat)].getD i (0 : Int)) { data := #[(46 : UInt8)] : ByteArray }).getD ((4 : Nat)) { data := #[] : ByteArray } = { data := #[(105 : UInt8), (110 : UInt8), (45 : UInt8), (97 : UInt8), (100 : UInt8), (100 : UInt8), (114 : UInt8)] : ByteArray })) = true → ((↑(splitS (rev fun (i : Nat) => [a (0 : Nat), a (1 : Nat), a (2 : Nat), a (3 : Nat), a (4 : Nat), a (5 : Nat), a (6 : Nat), a (7 : Nat), a (8 : Nat), a (9 : Nat), a (10 : Nat), a (11 : Nat), a (12 : Nat), a (13 : Nat), a (14 : Nat), a (15 : Nat)].getD i (0 : Int)) { data := #[(46 : UInt8)] : ByteArray }).length : Int) == (6 : Int) && decide ((splitS (rev fun (i : Nat) => [a (0 : Nat), a (1 : Nat), a (2 : Nat), a (3 : Nat), a (4 : Nat), a (5 : Nat), a (6 : Nat), a (7 : Nat), a (8 : Nat), a (9 : Nat), a (10 : Nat), a (11 : Nat), a (12 : Nat), a (13 : Nat), a (14 : Nat), a (15 : Nat)].getD i (0 : Int)) { data := #[(46 : UInt8)] : ByteArray }).getD ((4 : Nat)) { data := #[] : ByteArray } = { data := #[(105 : UInt8), (110 : UInt8), (45 : UInt8), (97 : UInt8), (100 : UInt8), (100 : UInt8), (114 : UInt8)] : ByteArray })) = true) ∧ (((↑(splitS (rev fun (i : Nat) => [a (0 : Nat), a (1 : Nat), a (2 : Nat), a (3 : Nat), a (4 : Nat), a (5 : Nat), a (6 : Nat), a (7 : Nat), a (8 : Nat), a (9 : Nat), a (10 : Nat), a (11 : Nat), a (12 : Nat), a (13 : Nat), a (14 : Nat), a (15 : Nat)].getD i (0 : Int)) { data := #[(46 : UInt8)] : ByteArray }).length : Int) == (6 : Int) && decide ((splitS (rev fun (i : Nat) => [a (0 : Nat), a (1 : Nat), a (2 : Nat), a (3 : Nat), a (4 : Nat), a (5 : Nat), a (6 : Nat), a (7 : Nat), a (8 : Nat), a (9 : Nat), a (10 : Nat), a (11 : Nat), a (12 : Nat), a (13 : Nat), a (14 : Nat), a (15 : Nat)].getD i (0 : Int)) { data := #[(46 : UInt8)] : ByteArray }).getD ((4 : Nat)) { data := #[] : ByteArray } = { data := #[(105 : UInt8), (110 : UInt8), (45 : UInt8), (97 : UInt8), (100 : UInt8), (100 : UInt8), (114 : UInt8)] : ByteArray })) = true → ((↑(splitS (rev fun (i : Nat) => [a (0 : Nat), a (1 : Nat), a (2 : Nat), a (3 : Nat), a (4 : Nat), a (5 : Nat), a (6 : Nat), a (7 : Nat), a (8 : Nat), a (9 : Nat), a (10 : Nat), a (11 : Nat), a (12 : Nat), a (13 : Nat), a (14 : Nat), a (15 : Nat)].getD i (0 : Int)) { data := #[(46 : UInt8)] : ByteArray }).length : Int) == (6 : Int) && decide ((splitS (rev fun (i : Nat) => [a (0 : Nat), a (1 : Nat), a (2 : Nat), a (3 : Nat), a (4 : Nat), a (5 : Nat), a (6 : Nat), a (7 : Nat), a (8 : Nat), a (9 : Nat), a (10 : Nat), a (11 : Nat), a (12 : Nat), a (13 : Nat), a (14 : Nat), a (15 : Nat)].getD i (0 : Int)) { data := #[(46 : UInt8)] : ByteArray }).getD ((4 : Nat)) { data := #[] : ByteArray } = { data := #[(105 : UInt8), (110 : UInt8), (45 : UInt8), (97 : UInt8), (100 : UInt8), (100 : UInt8), (114 : UInt8)] : ByteArray })) = true) ∧ (((↑(splitS (rev fun (i : Nat) => [a (0 : Nat), a (1 : Nat), a (2 : Nat), a (3 : Nat), a (4 : Nat), a (5 : Nat), a (6 : Nat), a (7 : Nat), a (8 : Nat), a (9 : Nat), a (10 : Nat), a (11 : Nat), a (12 : Nat), a (13 : Nat), a (14 : Nat), a (15 : Nat)].getD i (0 : Int)) { data := #[(46 : UInt8)] : ByteArray }).length : Int) == (6 : Int) && decide ((splitS (rev fun (i : Nat) => [a (0 : Nat), a (1 : Nat), a (2 : Nat), a (3 : Nat), a (4 : Nat), a (5 : Nat), a (6 : Nat), a (7 : Nat), a (8 : Nat), a (9 : Nat), a (10 : Nat), a (11 : Nat), a (12 : Nat), a (13 : Nat), a (14 : Nat), a (15 : Nat)].getD i (0 : Int)) { data := #[(46 : UInt8)] : ByteArray }).getD ((4 : Nat)) { data := #[] : ByteArray } = { data := #[(105 : UInt8), (110 : UInt8), (45 : UInt8), (97 : UInt8), (100 : UInt8), (100 : UInt8), (114 : UInt8)] : ByteArray })) = true → ((↑(splitS (rev fun (i : Nat) => [a (0 : Nat), a (1 : Nat), a (2 : Nat), a (3 : Nat), a (4 : Nat), a (5 : Nat), a (6 : Nat), a (7 : Nat), a (8 : Nat), a (9 : Nat), a (10 : Nat), a (11 : Nat), a (12 : Nat), a (13 : Nat), a (14 : Nat), a (15 : Nat)].getD i (0 : Int)) { data := #[(46 : UInt8)] : ByteArray }).length : Int) == (6 : Int) && decide ((splitS (rev fun (i : Nat) => [a (0 : Nat), a (1 : Nat), a (2 : Nat), a (3 : Nat), a (4 : Nat), a (5 : Nat), a (6 : Nat), a (7 : Nat), a (8 : Nat), a (9 : Nat), a (10 : Nat), a (11 : Nat), a (12 : Nat), a (13 : Nat), a (14 : Nat), a (15 : Nat)].getD i (0 : Int)) { data := #[(46 : UInt8)] : ByteArray }).getD ((4 : Nat)) { data := #[] : ByteArray } = { data := #[(105 : UInt8), (110 : UInt8), (45 : UInt8), (97 : UInt8), (100 : UInt8), (100 : UInt8), (114 : UInt8)] : ByteArray })) = true) ∧ ((↑(splitS (rev fun (i : Nat) => [a (0 : Nat), a (1 : Nat), a (2 : Nat), a (3 : Nat), a (4 : Nat), a (5 : Nat), a (6 : Nat), a (7 : Nat), a (8 : Nat), a (9 : Nat), a (10 : Nat), a (11 : Nat), a (12 : Nat), a (13 : Nat), a (14 : Nat), a (15 : Nat)].getD i (0 : Int)) { data := #[(46 : UInt8)] : ByteArray }).length : Int) == (6 : Int) && decide ((splitS (rev fun (i : Nat) => [a (0 : Nat), a (1 : Nat), a (2 : Nat), a (3 : Nat), a (4 : Nat), a (5 : Nat), a (6 : Nat), a (7 : Nat), a (8 : Nat), a (9 : Nat), a (10 : Nat), a (11 : Nat), a (12 : Nat), a (13 : Nat), a (14 : Nat), a (15 : Nat)].getD i (0 : Int)) { data := #[(46 : UInt8)] : ByteArray }).getD ((4 : Nat)) { data := #[] : ByteArray } = { data := #[(105 : UInt8), (110 : UInt8), (45 : UInt8), (97 : UInt8), (100 : UInt8), (100 : UInt8), (114 : UInt8)] : ByteArray }) && decide (ljF (fun (i : Nat) => [(splitS (rev fun (i : Nat) => [a (0 : Nat), a (1 : Nat), a (2 : Nat), a (3 : Nat), a (4 : Nat), a (5 : Nat), a (6 : Nat), a (7 : Nat), a (8 : Nat), a (9 : Nat), a (10 : Nat), a (11 : Nat), a (12 : Nat), a (13 : Nat), a (14 : Nat), a (15 : Nat)].getD i (0 : Int)) { data := #[(46 : UInt8)] : ByteArray }).getD ((3 : Nat)) { data := #[] : ByteArray }, (splitS (rev fun (i : Nat) => [a (0 : Nat), a (1 : Nat), a (2 : Nat), a (3 : Nat), a (4 : Nat), a (5 : Nat), a (6 : Nat), a (7 : Nat), a (8 : Nat), a (9 : Nat), a (10 : Nat), a (11 : Nat), a (12 : Nat), a (13 : Nat), a (14 : Nat), a (15 : Nat)].getD i (0 : Int)) { data := #[(46 : UInt8)] : ByteArray }).getD ((2 : Nat)) { data := #[] : ByteArray }, (splitS (rev fun (i : Nat) => [a (0 : Nat), a (1 : Nat), a (2 : Nat), a (3 : Nat), a (4 : Nat), a (5 : Nat), a (6 : Nat), a (7 : Nat), a (8 : Nat), a (9 : Nat), a (10 : Nat), a (11 : Nat), a (12 : Nat), a (13 : Nat), a (14 : Nat), a (15 : Nat)].getD i (0 : Int)) { data := #[(46 : UInt8)] : ByteArray }).getD ((1 : Nat)) { data := #[] : ByteArray }, (splitS (rev fun (i : Nat) => [a (0 : Nat), a (1 : Nat), a (2 : Nat), a (3 : Nat), a (4 : Nat), a (5 : Nat), a (6 : Nat), a (7 : Nat), a (8 : Nat), a (9 : Nat), a (10 : Nat), a (11 : Nat), a (12 : Nat), a (13 : Nat), a (14 : Nat), a (15 : Nat)].getD i (0 : Int)) { data := #[(46 : UInt8)] : ByteArray }).getD ((0 : Nat)) { data := #[] : ByteArray }].getD i { data := #[] : ByteArray }) (4 : Nat) = prn fun (i : Nat) => [a (0 : Nat), a (1 : Nat), a (2 : Nat), a (3 : Nat), a (4 : Nat), a (5 : Nat), a (6 : Nat), a (7 : Nat), a (8 : Nat), a (9 : Nat), a (10 : Nat), a (11 : Nat), a (12 : Nat), a (13 : Nat), a (14 : Nat), a (15 : Nat)].getD i (0 : Int))) = true) ∧ ((is4 fun (i : Nat) => [a (0 : Nat), a (1 : Nat), a (2 : Nat), a (3 : Nat), a (4 : Nat), a (5 : Nat), a (6 : Nat), a (7 : Nat), a (8 : Nat), a (9 : Nat), a (10 : Nat), a (11 : Nat), a (12 : Nat), a (13 : Nat), a (14 : Nat), a (15 : Nat)].getD i (0 : Int)) = false → ∃ (x : (rs9 a b).σ), True ∧ true = true ∧ XV.ptr (0 : Nat) (0 : Nat) (0 : Nat) (0 : Nat) = XV.ptr (0 : Nat) (0 : Nat) (0 : Nat) (0 : Nat) ∧ false = false ∧ ((XV.fz (splitS (rev fun (i : Nat) => [a (0 : Nat), a (1 : Nat), a (2 : Nat), a (3 : Nat), a (4 : Nat), a (5 : Nat), a (6 : Nat), a (7 : Nat), a (8 : Nat), a (9 : Nat), a (10 : Nat), a (11 : Nat), a (12 : Nat), a (13 : Nat), a (14 : Nat), a (15 : Nat)].getD i (0 : Int)) { data := #[(46 : UInt8)] : ByteArray }).length (1 : Nat) fun (i : Nat) => [XT ((splitS (rev fun (i : Nat) => [a (0 : Nat), a (1 : Nat), a (2 : Nat), a (3 : Nat), a (4 : Nat), a (5 : Nat), a (6 : Nat), a (7 : Nat), a (8 : Nat), a (9 : Nat), a (10 : Nat), a (11 : Nat), a (12 : Nat), a (13 : Nat), a (14 : Nat), a (15 : Nat)].getD i (0 : Int)) { data := #[(46 : UInt8)] : ByteArray }).getD i { data := #[] : ByteArray })]) = XV.fz (34 : Nat) (1 : Nat) fun (j : Nat) => [XT (rvX a j)]) ∧ (((23 : Nat) = (23 : TypeId) ∧ true = true) ∧ a (0 : Nat) = a (0 : Nat) ∧ a (1 : Nat) = a (1 : Nat) ∧ a (2 : Nat) = a (2 : Nat) ∧ a (3 : Nat) = a (3 : Nat) ∧ a (4 : Nat) = a (4 : Nat) ∧ a (5 : Nat) = a (5 : Nat) ∧ a (6 : Nat) = a (6 : Nat) ∧ a (7 : Nat) = a (7 : Nat) ∧ a (8 : Nat) = a (8 : Nat) ∧ a (9 : Nat) = a (9 : Nat) ∧ a (10 : Nat) = a (10 : Nat) ∧ a (11 : Nat) = a (11 : Nat) ∧ a (12 : Nat) = a (12 : Nat) ∧ a (13 : Nat) = a (13 : Nat) ∧ a (14 : Nat) = a (14 : Nat) ∧ a (15 : Nat) = a (15 : Nat) ∧ True) ∧ (((23 : Nat) = (23 : TypeId) ∧ true = true) ∧ b (0 : Nat) = b (0 : Nat) ∧ b (1 : Nat) = b (1 : Nat) ∧ b (2 : Nat) = b (2 : Nat) ∧ b (3 : Nat) = b (3 : Nat) ∧ b (4 : Nat) = b (4 : Nat) ∧ b (5 : Nat) = b (5 : Nat) ∧ b (6 : Nat) = b (6 : Nat) ∧ b (7 : Nat) = b (7 : Nat) ∧ b (8 : Nat) = b (8 : Nat) ∧ b (9 : Nat) = b (9 : Nat) ∧ b (10 : Nat) = b (10 : Nat) ∧ b (11 : Nat) = b (11 : Nat) ∧ b (12 : Nat) = b (12 : Nat) ∧ b (13 : Nat) = b (13 : Nat) ∧ b (14 : Nat) = b (14 : Nat) ∧ b (15 : Nat) = b (15 : Nat) ∧ True) ∧ True)) ∧ ∀ (x : IR), True → ((!(↑(34 : Nat) : Int) != (34 : Int)) = true → (0 : Int) ≤ (32 : Int)) ∧ ((!(↑(34 : Nat) : Int) != (34 : Int)) = true → (32 : Int) < (↑(34 : Nat) : Int)) ∧ (((↑(34 : Nat) : Int) != (34 : Int) || !decide (rvX a ((32 : Nat)) = { data := #[(105 : UInt8), (112 : UInt8), (54 : UInt8)] : ByteArray })) = true → false = true) ∧ (((↑(34 : Nat) : Int) != (34 : Int) || !decide (rvX a ((32 : Nat)) = { data := #[(105 : UInt8), (112 : UInt8), (54 : UInt8)] : ByteArray })) = false → (∃ (x : (rsI a b).σ), x.i.le (32 : Nat) ∧ true = true ∧ XV.ptr (0 : Nat) (0 : Nat) (0 : Nat) (0 : Nat) = XV.ptr (0 : Nat) (0 : Nat) (0 : Nat) (0 : Nat) ∧ false = false ∧ ((XV.fz (34 : Nat) (1 : Nat) fun (j : Nat) => [XT (rvX a j)]) = XV.fz (34 : Nat) (1 : Nat) fun (j : Nat) => [XT (rvX a j)]) ∧ (0 : Int) = (↑x.i : Int) ∧ (((23 : TypeId) = (23 : TypeId) ∧ true = true) ∧ a (0 : Nat) = a (0 : Nat) ∧ a (1 : Nat) = a (1 : Nat) ∧ a (2 : Nat) = a (2 : Nat) ∧ a (3 : Nat) = a (3 : Nat) ∧ a (4 : Nat) = a (4 : Nat) ∧ a (5 : Nat) = a (5 : Nat) ∧ a (6 : Nat) = a (6 : Nat) ∧ a (7 : Nat) = a (7 : Nat) ∧ a (8 : Nat) = a (8 : Nat) ∧ a (9 : Nat) = a (9 : Nat) ∧ a (10 : Nat) = a (10 : Nat) ∧ a (11 : Nat) = a (11 : Nat) ∧ a (12 : Nat) = a (12 : Nat) ∧ a (13 : Nat) = a (13 : Nat) ∧ a (14 : Nat) = a (14 : Nat) ∧ a (15 : Nat) = a (15 : Nat) ∧ True) ∧ (((23 : TypeId) = (23 : TypeId) ∧ true = true) ∧ b (0 : Nat) = b (0 : Nat) ∧ b (1 : Nat) = b (1 : Nat) ∧ b (2 : Nat) = b (2 : Nat) ∧ b (3 : Nat) = b (3 : Nat) ∧ b (4 : Nat) = b (4 : Nat) ∧ b (5 : Nat) = b (5 : Nat) ∧ b (6 : Nat) = b (6 : Nat) ∧ b (7 : Nat) = b (7 : Nat) ∧ b (8 : Nat) = b (8 : Nat) ∧ b (9 : Nat) = b (9 : Nat) ∧ b (10 : Nat) = b (10 : Nat) ∧ b (11 : Nat) = b (11 : Nat) ∧ b (12 : Nat) = b (12 : Nat) ∧ b (13 : Nat) = b (13 : Nat) ∧ b (14 : Nat) = b (14 : Nat) ∧ b (15 : Nat) = b (15 : Nat) ∧ True) ∧ True) ∧ ∀ (x : IR), x.i.le (32 : Nat) → (decide ((↑x.i : Int) < (32 : Int)) = true → (2 : Int) ≠ (0 : Int) ∧ in64 ((15 : Int) - IntKind.i64.wrap ((↑x.i : Int).tdiv (2 : Int))) ∧ (0 : Int) ≤ (15 : Int) - IntKind.i64.wrap ((↑x.i : Int).tdiv (2 : Int)) ∧ (15 : Int) - IntKind.i64.wrap ((↑x.i : Int).tdiv (2 : Int)) < (↑(16 : Nat) : Int) ∧ ((15 : Int) - IntKind.i64.wrap ((↑x.i : Int).tdiv (2 : Int))).toNat < [a (0 : Nat), a (1 : Nat), a (2 : Nat), a (3 : Nat), a (4 : Nat), a (5 : Nat), a (6 : Nat), a (7 : Nat), a (8 : Nat), a (9 : Nat), a (10 : Nat), a (11 : Nat), a (12 : Nat), a (13 : Nat), a (14 : Nat), a (15 : Nat)].length ∧ (2 : Int) ≠ (0 : Int) ∧ in64 ((4 : Int) * (↑x.i : Int).tmod (2 : Int)) ∧ (0 : Int) ≤ (4 : Int) * (↑x.i : Int).tmod (2 : Int) ∧ (0 : Int) ≤ (↑x.i : Int) ∧ (↑x.i : Int) < (↑(34 : Nat) : Int) ∧ (0 : Int) ≤ bits BinOp.and IntKind.u8 (([a (0 : Nat), a (1 : Nat), a (2 : Nat), a (3 : Nat), a (4 : Nat), a (5 : Nat), a (6 : Nat), a (7 : Nat), a (8 : Nat), a (9 : Nat), a (10 : Nat), a (11 : Nat), a (12 : Nat), a (13 : Nat), a (14 : Nat), a (15 : Nat)].getD ((15 : Int) - IntKind.i64.wrap ((↑x.i : Int).tdiv (2 : Int))).toNat (0 : Int)).fdiv ((2 : Int) ^ min ((4 : Int) * (↑x.i : Int).tmod (2 : Int)).toNat ((8 : Nat)))) (15 : Int) ∧ bits BinOp.and IntKind.u8 (([a (0 : Nat), a (1 : Nat), a (2 : Nat), a (3 : Nat), a (4 : Nat), a (5 : Nat), a (6 : Nat), a (7 : Nat), a (8 : Nat), a (9 : Nat), a (10 : Nat), a (11 : Nat), a (12 : Nat), a (13 : Nat), a (14 : Nat), a (15 : Nat)].getD ((15 : Int) - IntKind.i64.wrap ((↑x.i : Int).tdiv (2 : Int))).toNat (0 : Int)).fdiv ((2 : Int) ^ min ((4 : Int) * (↑x.i : Int).tmod (2 : Int)).toNat ((8 : Nat)))) (15 : Int) < (↑((16 : Nat)) : Int) ∧ (∀ (j : Nat), j < (1 : Nat) → [X8 (sbyte { data := #[(48 : UInt8), (49 : UInt8), (50 : UInt8), (51 : UInt8), (52 : UInt8), (53 : UInt8), (54 : UInt8), (55 : UInt8), (56 : UInt8), (57 : UInt8), (97 : UInt8), (98 : UInt8), (99 : UInt8), (100 : UInt8), (101 : UInt8), (102 : UInt8)] : ByteArray } (bits BinOp.and IntKind.u8 (([a (0 : Nat), a (1 : Nat), a (2 : Nat), a (3 : Nat), a (4 : Nat), a (5 : Nat), a (6 : Nat), a (7 : Nat), a (8 : Nat), a (9 : Nat), a (10 : Nat), a (11 : Nat), a (12 : Nat), a (13 : Nat), a (14 : Nat), a (15 : Nat)].getD ((15 : Int) - IntKind.i64.wrap ((↑x.i : Int).tdiv (2 : Int))).toNat (0 : Int)).fdiv ((2 : Int) ^ min ((4 : Int) * (↑x.i : Int).tmod (2 : Int)).toNat ((8 : Nat)))) (15 : Int)))] = [X8 (↑{ toBitVec := BitVec.ofNat (8 : Nat) (sbyte { data := #[(48 : UInt8), (49 : UInt8), (50 : UInt8), (51 : UInt8), (52 : UInt8), (53 : UInt8), (54 : UInt8), (55 : UInt8), (56 : UInt8), (57 : UInt8), (97 : UInt8), (98 : UInt8), (99 : UInt8), (100 : UInt8), (101 : UInt8), (102 : UInt8)] : ByteArray } (bits BinOp.and IntKind.u8 (([a (0 : Nat), a (1 : Nat), a (2 : Nat), a (3 : Nat), a (4 : Nat), a (5 : Nat), a (6 : Nat), a (7 : Nat), a (8 : Nat), a (9 : Nat), a (10 : Nat), a (11 : Nat), a (12 : Nat), a (13 : Nat), a (14 : Nat), a (15 : Nat)].getD ((15 : Int) - IntKind.i64.wrap ((↑x.i : Int).tdiv (2 : Int))).toNat (0 : Int)).fdiv ((2 : Int) ^ min ((4 : Int) * (↑x.i : Int).tmod (2 : Int)).toNat ((8 : Nat)))) (15 : Int))).toNat : UInt8 }.toNat : Int)]) ∧ ((!decide (rvX a (↑x.i : Int).toNat = txtOf (1 : Nat) fun (j : Nat) => { toBitVec := BitVec.ofNat (8 : Nat) (sbyte { data := #[(48 : UInt8), (49 : UInt8), (50 : UInt8), (51 : UInt8), (52 : UInt8), (53 : UInt8), (54 : UInt8), (55 : UInt8), (56 : UInt8), (57 : UInt8), (97 : UInt8), (98 : UInt8), (99 : UInt8), (100 : UInt8), (101 : UInt8), (102 : UInt8)] : ByteArray } (bits BinOp.and IntKind.u8 (([a (0 : Nat), a (1 : Nat), a (2 : Nat), a (3 : Nat), a (4 : Nat), a (5 : Nat), a (6 : Nat), a (7 : Nat), a (8 : Nat), a (9 : Nat), a (10 : Nat), a (11 : Nat), a (12 : Nat), a (13 : Nat), a (14 : Nat), a (15 : Nat)].getD ((15 : Int) - IntKind.i64.wrap ((↑x.i : Int).tdiv (2 : Int))).toNat (0 : Int)).fdiv ((2 : Int) ^ min ((4 : Int) * (↑x.i : Int).tmod (2 : Int)).toNat ((8 : Nat)))) (15 : Int))).toNat : UInt8 })) = true → false = true) ∧ ((!decide (rvX a (↑x.i : Int).toNat = txtOf (1 : Nat) fun (j : Nat) => { toBitVec := BitVec.ofNat (8 : Nat) (sbyte { data := #[(48 : UInt8), (49 : UInt8), (50 : UInt8), (51 : UInt8), (52 : UInt8), (53 : UInt8), (54 : UInt8), (55 : UInt8), (56 : UInt8), (57 : UInt8), (97 : UInt8), (98 : UInt8), (99 : UInt8), (100 : UInt8), (101 : UInt8), (102 : UInt8)] : ByteArray } (bits BinOp.and IntKind.u8 (([a (0 : Nat), a (1 : Nat), a (2 : Nat), a (3 : Nat), a (4 : Nat), a (5 : Nat), a (6 : Nat), a (7 : Nat), a (8 : Nat), a (9 : Nat), a (10 : Nat), a (11 : Nat), a (12 : Nat), a (13 : Nat), a (14 : Nat), a (15 : Nat)].getD ((15 : Int) - IntKind.i64.wrap ((↑x.i : Int).tdiv (2 : Int))).toNat (0 : Int)).fdiv ((2 : Int) ^ min ((4 : Int) * (↑x.i : Int).tmod (2 : Int)).toNat ((8 : Nat)))) (15 : Int))).toNat : UInt8 })) = false → in64 ((↑x.i : Int) + (1 : Int)) ∧ ∃ (x' : (rsI a b).σ), x'.i.le (32 : Nat) ∧ (32 : Nat) - x'.i < (32 : Nat) - x.i ∧ true = true ∧ XV.ptr (0 : Nat) (0 : Nat) (0 : Nat) (0 : Nat) = XV.ptr (0 : Nat) (0 : Nat) (0 : Nat) (0 : Nat) ∧ false = false ∧ ((XV.fz (34 : Nat) (1 : Nat) fun (j : Nat) => [XT (rvX a j)]) = XV.fz (34 : Nat) (1 : Nat) fun (j : Nat) => [XT (rvX a j)]) ∧ (↑x.i : Int) + (1 : Int) = (↑x'.i : Int) ∧ (((23 : TypeId) = (23 : TypeId) ∧ true = true) ∧ a (0 : Nat) = a (0 : Nat) ∧ a (1 : Nat) = a (1 : Nat) ∧ a (2 : Nat) = a (2 : Nat) ∧ a (3 : Nat) = a (3 : Nat) ∧ a (4 : Nat) = a (4 : Nat) ∧ a (5 : Nat) = a (5 : Nat) ∧ a (6 : Nat) = a (6 : Nat) ∧ a (7 : Nat) = a (7 : Nat) ∧ a (8 : Nat) = a (8 : Nat) ∧ a (9 : Nat) = a (9 : Nat) ∧ a (10 : Nat) = a (10 : Nat) ∧ a (11 : Nat) = a (11 : Nat) ∧ a (12 : Nat) = a (12 : Nat) ∧ a (13 : Nat) = a (13 : Nat) ∧ a (14 : Nat) = a (14 : Nat) ∧ a (15 : Nat) = a (15 : Nat) ∧ True) ∧ (((23 : TypeId) = (23 : TypeId) ∧ true = true) ∧ b (0 : Nat) = b (0 : Nat) ∧ b (1 : Nat) = b (1 : Nat) ∧ b (2 : Nat) = b (2 : Nat) ∧ b (3 : Nat) = b (3 : Nat) ∧ b (4 : Nat) = b (4 : Nat) ∧ b (5 : Nat) = b (5 : Nat) ∧ b (6 : Nat) = b (6 : Nat) ∧ b (7 : Nat) = b (7 : Nat) ∧ b (8 : Nat) = b (8 : Nat) ∧ b (9 : Nat) = b (9 : Nat) ∧ b (10 : Nat) = b (10 : Nat) ∧ b (11 : Nat) = b (11 : Nat) ∧ b (12 : Nat) = b (12 : Nat) ∧ b (13 : Nat) = b (13 : Nat) ∧ b (14 : Nat) = b (14 : Nat) ∧ b (15 : Nat) = b (15 : Nat) ∧ True) ∧ True)) ∧ (decide ((↑x.i : Int) < (32 : Int)) = false → true = true))))
theorem revsV_eq (a b : Nat → Int) : revsV a b = (funC cxs Tryd.f10 (mkSc (rsE a b) (bodyOf Tryd.f10)) [adr a, adr b] (XB true)) := by kernel_rfl
end Go.Proofs.YtghmlhdlkgjbeaaDoorAv
set_option linter.unusedVariables false
set_option linter.unusedSimpArgs false
set_option maxRecDepth 100000
namespace Go.Proofs.YtghmlhdlkgjbeaaDoorAv
open Go Go.RowKit
theorem rl_get (f : Nat → ByteArray) (n k : Nat) (h : k < n) : ((List.range n).map f).getD k ⟨#[]⟩ = f k := by
  rw [List.getD_eq_getElem?_getD, List.getElem?_map, List.getElem?_range h]
  rfl
/-- The reverse name's parts: how many, the last one. -/
theorem revL_len (a : Nat → Int) : (revL a).length = if is4 a = true then 6 else 34 := by
  unfold revL
  split <;> simp
theorem revL_last (a : Nat → Int) : (revL a).getD ((revL a).length - 1) ⟨#[]⟩ = ⟨#[97, 114, 112, 97]⟩ := by
  unfold revL
  split
  · rw [List.length_map, List.length_range, rl_get _ _ _ (by omega)]
    rfl
  · rw [List.length_map, List.length_range, rl_get _ _ _ (by omega)]
    rfl
theorem nib_bits (a : Nat → Int) (ha : b16 a) (i : Nat) (hi : i < 32) : bits .and .u8 ((a (15 - i / 2)).fdiv (2 ^ (min (4 * (i % 2)) 8))) 15 = (nib a i : Int) := by
  have hx := ha (15 - i / 2) (by omega)
  unfold nib
  rcases Nat.mod_two_eq_zero_or_one i with h | h
  · rw [h, if_pos rfl]
    have e : (a (15 - i / 2)).fdiv (2 ^ (min (4 * 0) 8)) = a (15 - i / 2) := by
      show (a (15 - i / 2)).fdiv 1 = _
      rw [Int.fdiv_eq_ediv_of_nonneg _ (by decide)]
      omega
    rw [e, andB15 _ hx]
  · rw [h, if_neg (by omega)]
    have e : (a (15 - i / 2)).fdiv (2 ^ (min (4 * 1) 8)) = (((a (15 - i / 2)).toNat / 16 : Nat) : Int) := div16 _ hx
    rw [e, andB15 _ (by omega), Int.toNat_natCast]
    congr 1
    omega
theorem dig_txt (k : Nat) (hk : k < 16) (u : ByteArray) (hu : u.data.toList = [hexd k]) : u = txtOf 1 fun _ => UInt8.ofNat (sbyte ⟨#[48, 49, 50, 51, 52, 53, 54, 55, 56, 57, 97, 98, 99, 100, 101, 102]⟩ (k : Int)).toNat := by
  apply data_inj
  rw [hu]
  have h : sbyte ⟨#[48, 49, 50, 51, 52, 53, 54, 55, 56, 57, 97, 98, 99, 100, 101, 102]⟩ (k : Int) = ((hexd k).toNat : Int) := digs16 ⟨k, hk⟩
  rw [h, Int.toNat_natCast]
  show [hexd k] = [UInt8.ofNat (hexd k).toNat]
  simp
theorem revs_v (a b : Nat → Int) (ha : b16 a) (hb : b16 b) : revsV a b := by
  unfold revsV
  have el : (is4 fun i => [a 0, a 1, a 2, a 3, a 4, a 5, a 6, a 7, a 8, a 9, a 10, a 11, a 12, a 13, a 14, a 15].getD i 0) = is4 a := is4_ext fun k hk => get16 a k hk
  have rl : ∀ g : Nat → Int, (rev fun i => [g 0, g 1, g 2, g 3, g 4, g 5, g 6, g 7, g 8, g 9, g 10, g 11, g 12, g 13, g 14, g 15].getD i 0) = rev g := fun g => rev_ext fun k hk => get16 g k hk
  have hsz : (rev a).size ≤ 1000000000 := by
    have hz : ∀ (g : Nat → ByteArray) (n : Nat), n ≤ 34 → (∀ i, i < n → (g i).size ≤ 1000000) → (ljF g n).size ≤ 1000000000 := fun g n hn hg => by
      have := ljF_size g n hg n (Nat.le_refl _)
      omega
    unfold rev
    split
    · refine hz _ _ (by omega) fun i hi => ?_
      unfold rvF
      split
      · exact itoa_sz _ (ha (15 - i) (by omega))
      · split
        · show 7 ≤ 1000000; omega
        · show 4 ≤ 1000000; omega
    · refine hz _ _ (by omega) fun i hi => ?_
      unfold rvG
      have := rvH_size a i
      split
      · omega
      · split
        · show 3 ≤ 1000000; omega
        · show 4 ≤ 1000000; omega
  rw [rl a, rl b, el, prn_l a, rev_split a ha]
  have hE : (decide (rev a = rev b) == eq16 a b) = true := by
    rw [beq_iff_eq, Bool.eq_iff_iff, decide_eq_true_iff, eq16_iff]
    exact ⟨fun h => rev_inj a b ha hb h, fun h => rev_ext h⟩
  have hlen := revL_len a
  have hlast := revL_last a
  have hL : (revL a).length = 6 ∨ (revL a).length = 34 := by rw [hlen]; split <;> simp
  have e1 : (((revL a).length : Int) - 1).toNat = (revL a).length - 1 := by omega
  rw [e1, hlast]
  refine ⟨fun h => absurd h (by decide), fun _ => ⟨b16_l ha, b16_l hb, hsz, fun _ => by unfold in64; omega, fun _ => by omega, fun _ => by omega, fun h => ?_, fun _ => ⟨⟨fun h4 => ?_, fun h4 => ?_⟩, ?_⟩⟩⟩
  · have h : (!(decide (rev a = rev b) == eq16 a b) || !decide ((⟨#[97, 114, 112, 97]⟩ : ByteArray) = ⟨#[97, 114, 112, 97]⟩)) = true := h
    rw [hE, decide_eq_true rfl] at h
    cases h
  · have h4 : is4 a = true := h4
    rw [if_pos h4] at hlen
    have g : ∀ k, k < 6 → (revL a).getD k ⟨#[]⟩ = rvF a k := fun k hk => by
      unfold revL
      rw [if_pos h4, rl_get _ _ _ hk]
    rw [hlen, g 4 (by omega), g 3 (by omega), g 2 (by omega), g 1 (by omega), g 0 (by omega)]
    have sz : ∀ i, i < 4 → ([rvF a 3, rvF a 2, rvF a 1, rvF a 0].getD i ⟨#[]⟩).size ≤ 1000000 := fun i hi => by
      have k : ∀ j, j < 4 → (rvF a j).size ≤ 1000000 := fun j hj => by
        unfold rvF
        rw [if_pos hj]
        exact itoa_sz _ (ha (15 - j) (by omega))
      match i, hi with
      | 0, _ => exact k 3 (by omega)
      | 1, _ => exact k 2 (by omega)
      | 2, _ => exact k 1 (by omega)
      | 3, _ => exact k 0 (by omega)
    refine ⟨fun _ => by omega, fun _ => by omega, fun _ => by omega, fun _ => by omega, fun _ => by omega, fun _ => by omega, fun _ => by omega, fun _ => by omega, fun _ => by omega, fun _ => by omega, fun _ _ _ => rfl, fun _ => by omega, fun _ => sz, fun h => h, fun _ => b16_l ha, fun h => h, fun h => h, fun h => h, ?_⟩
    rw [rev_prn a h4 _ rfl rfl rfl rfl, decide_eq_true rfl]
    rfl
  · have h4 : is4 a = false := h4
    have hr : revL a = (List.range 34).map (rvG a) := by
      unfold revL
      rw [if_neg (by rw [h4]; decide)]
    refine ⟨⟨0⟩, trivial, rfl, rfl, rfl, ?_, ?_, ?_, trivial⟩
    · rw [hr, List.length_map, List.length_range]
      refine congrArg (XV.fz 34 1) (funext fun i => congrArg (fun x => [XT x]) ?_)
      unfold rvX
      by_cases hi : i < 34
      · rw [if_pos hi, rl_get _ _ _ hi]
      · rw [if_neg hi, List.getD_eq_getElem?_getD, List.getElem?_eq_none (by simp; omega)]
        rfl
    · and_intros <;> first | with_reducible rfl | trivial
    · and_intros <;> first | with_reducible rfl | trivial
  · rintro ⟨_⟩ _
    refine ⟨fun _ => by omega, fun _ => by omega, fun h => ?_, fun _ => ⟨⟨⟨0⟩, Nat.zero_le _, rfl, rfl, rfl, rfl, rfl, ?_, ?_, trivial⟩, ?_⟩⟩
    · exact absurd h (by show ¬ (false || !decide ((⟨#[105, 112, 54]⟩ : ByteArray) = ⟨#[105, 112, 54]⟩)) = true; rw [decide_eq_true rfl]; decide)
    · and_intros <;> first | with_reducible rfl | trivial
    · and_intros <;> first | with_reducible rfl | trivial
    rintro ⟨i⟩ hi
    have hi : i ≤ 32 := hi
    refine ⟨fun h => ?_, fun h => rfl⟩
    have h : (i : Int) < 32 := of_decide_eq_true h
    have t1 : (i : Int).tdiv 2 = ((i / 2 : Nat) : Int) := by rw [Int.tdiv_eq_ediv_of_nonneg (by omega)]; omega
    have t2 : (i : Int).tmod 2 = ((i % 2 : Nat) : Int) := by rw [Int.tmod_eq_emod_of_nonneg (by omega)]; omega
    have t3 : ((15 : Int) - ((i / 2 : Nat) : Int)).toNat = 15 - i / 2 := by omega
    have t4 : (4 * ((i % 2 : Nat) : Int)).toNat = 4 * (i % 2) := by omega
    have t5 : (i : Int).toNat = i := by omega
    have hw : IntKind.i64.wrap ((i / 2 : Nat) : Int) = ((i / 2 : Nat) : Int) := by
      have e : ((i / 2 : Nat) : Int) % 2 ^ 64 = ((i / 2 : Nat) : Int) := Int.emod_eq_of_lt (by omega) (by omega)
      simp only [IntKind.wrap, IntKind.bits, IntKind.signed, e]
      rw [if_neg]
      simp
      omega
    dsimp only
    rw [t1, t2, hw, t3, t4, t5, get16 a (15 - i / 2) (by omega), nib_bits a ha i (by omega)]
    have hn := nib_lt a ha i
    have hg : rvX a i = rvH a i := by unfold rvX rvG; rw [if_pos (by omega), if_pos (by omega)]
    have ht := dig_txt (nib a i) hn (rvX a i) (by rw [hg]; exact rvH_data a ha i)
    have hs := digs16 ⟨nib a i, hn⟩
    have hs : sbyte ⟨#[48, 49, 50, 51, 52, 53, 54, 55, 56, 57, 97, 98, 99, 100, 101, 102]⟩ (nib a i : Int) = ((hexd (nib a i)).toNat : Int) := hs
    refine ⟨by omega, by unfold in64; omega, by omega, by omega, by show 15 - i / 2 < 16; omega, by omega, by unfold in64; omega, by omega, by omega, by omega, by omega, by omega, fun j hj => ?_, fun h2 => ?_, fun h2 => ⟨by unfold in64; omega, ⟨i + 1⟩, by show i + 1 ≤ 32; omega, by show 32 - (i + 1) < 32 - i; omega, rfl, rfl, rfl, rfl, rfl, ?_, ?_, trivial⟩⟩
    · rw [hs, Int.toNat_natCast]
      refine congrArg (fun x => [X8 x]) ?_
      show ((hexd (nib a i)).toNat : Int) = ((UInt8.ofNat (hexd (nib a i)).toNat).toNat : Int)
      simp
    · have h2 : (!decide (rvX a i = txtOf 1 fun _ => UInt8.ofNat (sbyte ⟨#[48, 49, 50, 51, 52, 53, 54, 55, 56, 57, 97, 98, 99, 100, 101, 102]⟩ (nib a i : Int)).toNat)) = true := h2
      rw [decide_eq_true ht] at h2
      cases h2
    · and_intros <;> first | with_reducible rfl | trivial
    · and_intros <;> first | with_reducible rfl | trivial
theorem revs_ok : CTok Tryd.prog 10 (C2 dAL dAL (fun a b => [b16 a, b16 b]) fun _ _ => XB true) := C2_ok cxs_ok Tryd.func10 rfl (by decide) dAL_eq.ok dAL_eq.ok (by kernel_rfl) (fun _ _ => rfl) fun a b hc => exv (revsV_eq a b) (revs_v a b (hc (b16 a) (.head _)) (hc (b16 b) (.tail _ (.head _))))
end Go.Proofs.YtghmlhdlkgjbeaaDoorAv
set_option linter.unusedVariables false
set_option linter.unusedSimpArgs false
set_option maxRecDepth 100000
namespace Go.Proofs.YtghmlhdlkgjbeaaDoorAv
open Go Go.RowKit
theorem addrReverses_J (L : GH) (a b : Nat → Int) (ha : b16 a) (hb : b16 b) : JF Tryd.prog 10 [adrAV a, adrAV b] L (fun v L' => v = boolAV true ∧ L' = L) := by
  refine law_J revs_ok (xs := [adr a, adr b]) (cs := _) rfl ?_ ?_ L
  · intro p hp
    simp only [List.nil_append, List.mem_cons, List.not_mem_nil, or_false] at hp
    rcases hp with rfl | rfl
    · exact b16_l ha
    · exact b16_l hb
  · simp only [RVL]
    exact ⟨adr_rv _ a, adr_rv _ b, trivial⟩
end Go.Proofs.YtghmlhdlkgjbeaaDoorAv
