/- order's laws: Many, Actions. -/
import Derived.Test.YtihplidgomjoeaaDoorOrD
set_option linter.unusedVariables false
set_option linter.unusedSimpArgs false
set_option maxRecDepth 100000
namespace Go.Proofs.YtihplidgomjoeaaDoorAv
open Go Go.RowKit
def manN (a : Int) : Int := bits .and .i64 a 7
def manW : ByteArray := ⟨#[100, 110, 115, 32, 91, 84, 82, 89, 65, 71, 65, 73, 78, 61, 114, 101, 116, 117, 114, 110, 93, 32]⟩
def manT : Nat → ByteArray
  | 0 => ⟨#[]⟩
  | k + 1 => manT k ++ manW
def manI (a b : Int) : Inv where
  σ := IX
  S := fun x => ⟨[(0, XI (manN a)), (5, XT (manT x.i)), (14, XI (manN a)), (15, XI x.i)], [], 0, false, []⟩
  inv := fun x => (x.i : Int) ≤ manN a
  μ := fun x => (manN a).toNat - x.i
def manR (a : Int) : List Sr × Int := parse (manT (manN a).toNat)
def manJ (a b : Int) : Inv where
  σ := IX
  S := fun x => ⟨[(0, XI (manN a)), (6, srcs (manR a).1), (7, XI (manR a).2), (43, srcs (manR a).1), (44, XI (manR a).1.length), (45, XI x.i)], [], 0, false, []⟩
  inv := fun x => x.i ≤ (manR a).1.length
  μ := fun x => (manR a).1.length - x.i
def manE (a b : Int) : Env := { loops := [(0, manI a b), (2, manJ a b)] }
def manV (a b : Int) : Prop :=
  ((!true) = true → false = true) ∧ ((!true) = false → (∃ (x : (manI a b).σ), (manN a - (↑x.i : Int)).NonNeg ∧ true = true ∧ bits BinOp.and IntKind.i64 a (7 : Int) = manN a ∧ { data := #[] : ByteArray } = manT x.i ∧ bits BinOp.and IntKind.i64 a (7 : Int) = manN a ∧ (0 : Int) = (↑x.i : Int) ∧ True) ∧ ∀ (x : IX), (manN a - (↑x.i : Int)).NonNeg → (decide ((↑x.i : Int) < manN a) = true → (manT x.i).size + (22 : Nat) ≤ (9223372036854775807 : Nat) ∧ in64 ((↑x.i : Int) + (1 : Int)) ∧ ∃ (x' : (manI a b).σ), (manN a - (↑x'.i : Int)).NonNeg ∧ (manN a).toNat - x'.i < (manN a).toNat - x.i ∧ true = true ∧ manN a = manN a ∧ manT x.i ++ { data := #[(100 : UInt8), (110 : UInt8), (115 : UInt8), (32 : UInt8), (91 : UInt8), (84 : UInt8), (82 : UInt8), (89 : UInt8), (65 : UInt8), (71 : UInt8), (65 : UInt8), (73 : UInt8), (78 : UInt8), (61 : UInt8), (114 : UInt8), (101 : UInt8), (116 : UInt8), (117 : UInt8), (114 : UInt8), (110 : UInt8), (93 : UInt8), (32 : UInt8)] : ByteArray } = manT x'.i ∧ manN a = manN a ∧ (↑x.i : Int) + (1 : Int) = (↑x'.i : Int) ∧ True) ∧ (decide ((↑x.i : Int) < manN a) = false → (manT x.i).size ≤ (100000 : Nat) ∧ (decide (manN a > (4 : Int)) = true → ((parse (manT x.i)).snd == (2 : Int) && (↑(parse (manT x.i)).fst.length : Int) == (0 : Int)) = true) ∧ (decide (manN a > (4 : Int)) = false → ((manN a == (0 : Int)) = true → (((parse (manT x.i)).snd == (0 : Int)) = true → ∀ (i : Nat), i < (parse (manT x.i)).fst.length → [XI (((parse (manT x.i)).fst.getD i default).k), XB (((parse (manT x.i)).fst.getD i default).r0), XB (((parse (manT x.i)).fst.getD i default).r1), XB (((parse (manT x.i)).fst.getD i default).r2), XB (((parse (manT x.i)).fst.getD i default).r3), XB (((parse (manT x.i)).fst.getD i default).r4)] = [XI ((srD [XI (((parse (manT x.i)).fst.getD i default).k), XB (((parse (manT x.i)).fst.getD i default).r0), XB (((parse (manT x.i)).fst.getD i default).r1), XB (((parse (manT x.i)).fst.getD i default).r2), XB (((parse (manT x.i)).fst.getD i default).r3), XB (((parse (manT x.i)).fst.getD i default).r4)]).k), XB ((srD [XI (((parse (manT x.i)).fst.getD i default).k), XB (((parse (manT x.i)).fst.getD i default).r0), XB (((parse (manT x.i)).fst.getD i default).r1), XB (((parse (manT x.i)).fst.getD i default).r2), XB (((parse (manT x.i)).fst.getD i default).r3), XB (((parse (manT x.i)).fst.getD i default).r4)]).r0), XB ((srD [XI (((parse (manT x.i)).fst.getD i default).k), XB (((parse (manT x.i)).fst.getD i default).r0), XB (((parse (manT x.i)).fst.getD i default).r1), XB (((parse (manT x.i)).fst.getD i default).r2), XB (((parse (manT x.i)).fst.getD i default).r3), XB (((parse (manT x.i)).fst.getD i default).r4)]).r1), XB ((srD [XI (((parse (manT x.i)).fst.getD i default).k), XB (((parse (manT x.i)).fst.getD i default).r0), XB (((parse (manT x.i)).fst.getD i default).r1), XB (((parse (manT x.i)).fst.getD i default).r2), XB (((parse (manT x.i)).fst.getD i default).r3), XB (((parse (manT x.i)).fst.getD i default).r4)]).r2), XB ((srD [XI (((parse (manT x.i)).fst.getD i default).k), XB (((parse (manT x.i)).fst.getD i default).r0), XB (((parse (manT x.i)).fst.getD i default).r1), XB (((parse (manT x.i)).fst.getD i default).r2), XB (((parse (manT x.i)).fst.getD i default).r3), XB (((parse (manT x.i)).fst.getD i default).r4)]).r3), XB ((srD [XI (((parse (manT x.i)).fst.getD i default).k), XB (((parse (manT x.i)).fst.getD i default).r0), XB (((parse (manT x.i)).fst.getD i default).r1), XB (((parse (manT x.i)).fst.getD i default).r2), XB (((parse (manT x.i)).fst.getD i default).r3), XB (((parse (manT x.i)).fst.getD i default).r4)]).r4)]) ∧ (((parse (manT x.i)).snd == (0 : Int)) = true → ∀ (i : Nat), i < (3 : Nat) → [XI (([srcM (1 : Int), srcM (2 : Int), srcM (3 : Int)].getD i default).k), XB (([srcM (1 : Int), srcM (2 : Int), srcM (3 : Int)].getD i default).r0), XB (([srcM (1 : Int), srcM (2 : Int), srcM (3 : Int)].getD i default).r1), XB (([srcM (1 : Int), srcM (2 : Int), srcM (3 : Int)].getD i default).r2), XB (([srcM (1 : Int), srcM (2 : Int), srcM (3 : Int)].getD i default).r3), XB (([srcM (1 : Int), srcM (2 : Int), srcM (3 : Int)].getD i default).r4)] = [XI ((srD [XI (([srcM (1 : Int), srcM (2 : Int), srcM (3 : Int)].getD i default).k), XB (([srcM (1 : Int), srcM (2 : Int), srcM (3 : Int)].getD i default).r0), XB (([srcM (1 : Int), srcM (2 : Int), srcM (3 : Int)].getD i default).r1), XB (([srcM (1 : Int), srcM (2 : Int), srcM (3 : Int)].getD i default).r2), XB (([srcM (1 : Int), srcM (2 : Int), srcM (3 : Int)].getD i default).r3), XB (([srcM (1 : Int), srcM (2 : Int), srcM (3 : Int)].getD i default).r4)]).k), XB ((srD [XI (([srcM (1 : Int), srcM (2 : Int), srcM (3 : Int)].getD i default).k), XB (([srcM (1 : Int), srcM (2 : Int), srcM (3 : Int)].getD i default).r0), XB (([srcM (1 : Int), srcM (2 : Int), srcM (3 : Int)].getD i default).r1), XB (([srcM (1 : Int), srcM (2 : Int), srcM (3 : Int)].getD i default).r2), XB (([srcM (1 : Int), srcM (2 : Int), srcM (3 : Int)].getD i default).r3), XB (([srcM (1 : Int), srcM (2 : Int), srcM (3 : Int)].getD i default).r4)]).r0), XB ((srD [XI (([srcM (1 : Int), srcM (2 : Int), srcM (3 : Int)].getD i default).k), XB (([srcM (1 : Int), srcM (2 : Int), srcM (3 : Int)].getD i default).r0), XB (([srcM (1 : Int), srcM (2 : Int), srcM (3 : Int)].getD i default).r1), XB (([srcM (1 : Int), srcM (2 : Int), srcM (3 : Int)].getD i default).r2), XB (([srcM (1 : Int), srcM (2 : Int), srcM (3 : Int)].getD i default).r3), XB (([srcM (1 : Int), srcM (2 : Int), srcM (3 : Int)].getD i default).r4)]).r1), XB ((srD [XI (([srcM (1 : Int), srcM (2 : Int), srcM (3 : Int)].getD i default).k), XB (([srcM (1 : Int), srcM (2 : Int), srcM (3 : Int)].getD i default).r0), XB (([srcM (1 : Int), srcM (2 : Int), srcM (3 : Int)].getD i default).r1), XB (([srcM (1 : Int), srcM (2 : Int), srcM (3 : Int)].getD i default).r2), XB (([srcM (1 : Int), srcM (2 : Int), srcM (3 : Int)].getD i default).r3), XB (([srcM (1 : Int), srcM (2 : Int), srcM (3 : Int)].getD i default).r4)]).r2), XB ((srD [XI (([srcM (1 : Int), srcM (2 : Int), srcM (3 : Int)].getD i default).k), XB (([srcM (1 : Int), srcM (2 : Int), srcM (3 : Int)].getD i default).r0), XB (([srcM (1 : Int), srcM (2 : Int), srcM (3 : Int)].getD i default).r1), XB (([srcM (1 : Int), srcM (2 : Int), srcM (3 : Int)].getD i default).r2), XB (([srcM (1 : Int), srcM (2 : Int), srcM (3 : Int)].getD i default).r3), XB (([srcM (1 : Int), srcM (2 : Int), srcM (3 : Int)].getD i default).r4)]).r3), XB ((srD [XI (([srcM (1 : Int), srcM (2 : Int), srcM (3 : Int)].getD i default).k), XB (([srcM (1 : Int), srcM (2 : Int), srcM (3 : Int)].getD i default).r0), XB (([srcM (1 : Int), srcM (2 : Int), srcM (3 : Int)].getD i default).r1), XB (([srcM (1 : Int), srcM (2 : Int), srcM (3 : Int)].getD i default).r2), XB (([srcM (1 : Int), srcM (2 : Int), srcM (3 : Int)].getD i default).r3), XB (([srcM (1 : Int), srcM (2 : Int), srcM (3 : Int)].getD i default).r4)]).r4)]) ∧ (((parse (manT x.i)).snd == (0 : Int)) = true → (parse (manT x.i)).fst.length ≤ (1000000 : Nat)) ∧ (((parse (manT x.i)).snd == (0 : Int)) = true → (3 : Nat) ≤ (1000000 : Nat)) ∧ ((parse (manT x.i)).snd == (0 : Int) && (decide ((parse (manT x.i)).fst.length = (3 : Nat)) && sameF (fun (i : Nat) => srD [XI (((parse (manT x.i)).fst.getD i default).k), XB (((parse (manT x.i)).fst.getD i default).r0), XB (((parse (manT x.i)).fst.getD i default).r1), XB (((parse (manT x.i)).fst.getD i default).r2), XB (((parse (manT x.i)).fst.getD i default).r3), XB (((parse (manT x.i)).fst.getD i default).r4)]) (fun (i : Nat) => srD [XI (([srcM (1 : Int), srcM (2 : Int), srcM (3 : Int)].getD i default).k), XB (([srcM (1 : Int), srcM (2 : Int), srcM (3 : Int)].getD i default).r0), XB (([srcM (1 : Int), srcM (2 : Int), srcM (3 : Int)].getD i default).r1), XB (([srcM (1 : Int), srcM (2 : Int), srcM (3 : Int)].getD i default).r2), XB (([srcM (1 : Int), srcM (2 : Int), srcM (3 : Int)].getD i default).r3), XB (([srcM (1 : Int), srcM (2 : Int), srcM (3 : Int)].getD i default).r4)]) (parse (manT x.i)).fst.length (0 : Nat))) = true) ∧ ((manN a == (0 : Int)) = false → (∃ (x_1 : (manJ a b).σ), x_1.i.le (manR a).fst.length ∧ true = true ∧ manN a = manN a ∧ ((XV.fz (parse (manT x.i)).fst.length (6 : Nat) fun (i : Nat) => [XI (((parse (manT x.i)).fst.getD i default).k), XB (((parse (manT x.i)).fst.getD i default).r0), XB (((parse (manT x.i)).fst.getD i default).r1), XB (((parse (manT x.i)).fst.getD i default).r2), XB (((parse (manT x.i)).fst.getD i default).r3), XB (((parse (manT x.i)).fst.getD i default).r4)]) = XV.fz (manR a).fst.length (6 : Nat) fun (i : Nat) => [XI (((manR a).fst.getD i default).k), XB (((manR a).fst.getD i default).r0), XB (((manR a).fst.getD i default).r1), XB (((manR a).fst.getD i default).r2), XB (((manR a).fst.getD i default).r3), XB (((manR a).fst.getD i default).r4)]) ∧ (parse (manT x.i)).snd = (manR a).snd ∧ ((XV.fz (parse (manT x.i)).fst.length (6 : Nat) fun (i : Nat) => [XI (((parse (manT x.i)).fst.getD i default).k), XB (((parse (manT x.i)).fst.getD i default).r0), XB (((parse (manT x.i)).fst.getD i default).r1), XB (((parse (manT x.i)).fst.getD i default).r2), XB (((parse (manT x.i)).fst.getD i default).r3), XB (((parse (manT x.i)).fst.getD i default).r4)]) = XV.fz (manR a).fst.length (6 : Nat) fun (i : Nat) => [XI (((manR a).fst.getD i default).k), XB (((manR a).fst.getD i default).r0), XB (((manR a).fst.getD i default).r1), XB (((manR a).fst.getD i default).r2), XB (((manR a).fst.getD i default).r3), XB (((manR a).fst.getD i default).r4)]) ∧ (↑(parse (manT x.i)).fst.length : Int) = (↑(manR a).fst.length : Int) ∧ (0 : Int) = (↑x_1.i : Int) ∧ True) ∧ ∀ (x : IX), x.i.le (manR a).fst.length → (decide ((↑x.i : Int) < (↑(manR a).fst.length : Int)) = true → (0 : Int) ≤ (↑x.i : Int) ∧ (↑x.i : Int) < (↑(manR a).fst.length : Int) ∧ ((((manR a).fst.getD (↑x.i : Int).toNat default).k != (2 : Int) || !(((manR a).fst.getD (↑x.i : Int).toNat default).r0 == false && (((manR a).fst.getD (↑x.i : Int).toNat default).r1 == true && (((manR a).fst.getD (↑x.i : Int).toNat default).r2 == false && (((manR a).fst.getD (↑x.i : Int).toNat default).r3 == false && (((manR a).fst.getD (↑x.i : Int).toNat default).r4 == true && true)))))) = true → false = true) ∧ ((((manR a).fst.getD (↑x.i : Int).toNat default).k != (2 : Int) || !(((manR a).fst.getD (↑x.i : Int).toNat default).r0 == false && (((manR a).fst.getD (↑x.i : Int).toNat default).r1 == true && (((manR a).fst.getD (↑x.i : Int).toNat default).r2 == false && (((manR a).fst.getD (↑x.i : Int).toNat default).r3 == false && (((manR a).fst.getD (↑x.i : Int).toNat default).r4 == true && true)))))) = false → in64 ((↑x.i : Int) + (1 : Int)) ∧ ∃ (x' : (manJ a b).σ), x'.i.le (manR a).fst.length ∧ (manR a).fst.length - x'.i < (manR a).fst.length - x.i ∧ true = true ∧ manN a = manN a ∧ ((XV.fz (manR a).fst.length (6 : Nat) fun (i : Nat) => [XI (((manR a).fst.getD i default).k), XB (((manR a).fst.getD i default).r0), XB (((manR a).fst.getD i default).r1), XB (((manR a).fst.getD i default).r2), XB (((manR a).fst.getD i default).r3), XB (((manR a).fst.getD i default).r4)]) = XV.fz (manR a).fst.length (6 : Nat) fun (i : Nat) => [XI (((manR a).fst.getD i default).k), XB (((manR a).fst.getD i default).r0), XB (((manR a).fst.getD i default).r1), XB (((manR a).fst.getD i default).r2), XB (((manR a).fst.getD i default).r3), XB (((manR a).fst.getD i default).r4)]) ∧ (manR a).snd = (manR a).snd ∧ ((XV.fz (manR a).fst.length (6 : Nat) fun (i : Nat) => [XI (((manR a).fst.getD i default).k), XB (((manR a).fst.getD i default).r0), XB (((manR a).fst.getD i default).r1), XB (((manR a).fst.getD i default).r2), XB (((manR a).fst.getD i default).r3), XB (((manR a).fst.getD i default).r4)]) = XV.fz (manR a).fst.length (6 : Nat) fun (i : Nat) => [XI (((manR a).fst.getD i default).k), XB (((manR a).fst.getD i default).r0), XB (((manR a).fst.getD i default).r1), XB (((manR a).fst.getD i default).r2), XB (((manR a).fst.getD i default).r3), XB (((manR a).fst.getD i default).r4)]) ∧ (↑(manR a).fst.length : Int) = (↑(manR a).fst.length : Int) ∧ (↑x.i : Int) + (1 : Int) = (↑x'.i : Int) ∧ True)) ∧ (decide ((↑x.i : Int) < (↑(manR a).fst.length : Int)) = false → (((manR a).snd == (0 : Int) && (↑(manR a).fst.length : Int) == manN a) = true → ∀ (i : Nat), i < (manR a).fst.length → [XI (((manR a).fst.getD i default).k), XB (((manR a).fst.getD i default).r0), XB (((manR a).fst.getD i default).r1), XB (((manR a).fst.getD i default).r2), XB (((manR a).fst.getD i default).r3), XB (((manR a).fst.getD i default).r4)] = [XI ((srD [XI (((manR a).fst.getD i default).k), XB (((manR a).fst.getD i default).r0), XB (((manR a).fst.getD i default).r1), XB (((manR a).fst.getD i default).r2), XB (((manR a).fst.getD i default).r3), XB (((manR a).fst.getD i default).r4)]).k), XB ((srD [XI (((manR a).fst.getD i default).k), XB (((manR a).fst.getD i default).r0), XB (((manR a).fst.getD i default).r1), XB (((manR a).fst.getD i default).r2), XB (((manR a).fst.getD i default).r3), XB (((manR a).fst.getD i default).r4)]).r0), XB ((srD [XI (((manR a).fst.getD i default).k), XB (((manR a).fst.getD i default).r0), XB (((manR a).fst.getD i default).r1), XB (((manR a).fst.getD i default).r2), XB (((manR a).fst.getD i default).r3), XB (((manR a).fst.getD i default).r4)]).r1), XB ((srD [XI (((manR a).fst.getD i default).k), XB (((manR a).fst.getD i default).r0), XB (((manR a).fst.getD i default).r1), XB (((manR a).fst.getD i default).r2), XB (((manR a).fst.getD i default).r3), XB (((manR a).fst.getD i default).r4)]).r2), XB ((srD [XI (((manR a).fst.getD i default).k), XB (((manR a).fst.getD i default).r0), XB (((manR a).fst.getD i default).r1), XB (((manR a).fst.getD i default).r2), XB (((manR a).fst.getD i default).r3), XB (((manR a).fst.getD i default).r4)]).r3), XB ((srD [XI (((manR a).fst.getD i default).k), XB (((manR a).fst.getD i default).r0), XB (((manR a).fst.getD i default).r1), XB (((manR a).fst.getD i default).r2), XB (((manR a).fst.getD i default).r3), XB (((manR a).fst.getD i default).r4)]).r4)]) ∧ (((manR a).snd == (0 : Int) && (↑(manR a).fst.length : Int) == manN a) = true → (manR a).fst.length ≤ (4 : Nat)) ∧ (((manR a).snd == (0 : Int) && (↑(manR a).fst.length : Int) == manN a) = true → ∀ (i : Nat), i < (manR a).fst.length → (1 : Int) ≤ ((manR a).fst.getD i default).k ∧ ((manR a).fst.getD i default).k ≤ (3 : Int)) ∧ (((manR a).snd == (0 : Int) && (↑(manR a).fst.length : Int) == manN a) = true → in64 (manN a * (21 : Int))) ∧ (((manR a).snd == (0 : Int) && (↑(manR a).fst.length : Int) == manN a) = true → in64 (manN a * (21 : Int) + manN a)) ∧ (((manR a).snd == (0 : Int) && (↑(manR a).fst.length : Int) == manN a) = true → in64 (manN a * (21 : Int) + manN a - (1 : Int))) ∧ ((manR a).snd == (0 : Int) && (↑(manR a).fst.length : Int) == manN a && (↑(printS (fun (i : Nat) => srD [XI (((manR a).fst.getD i default).k), XB (((manR a).fst.getD i default).r0), XB (((manR a).fst.getD i default).r1), XB (((manR a).fst.getD i default).r2), XB (((manR a).fst.getD i default).r3), XB (((manR a).fst.getD i default).r4)]) (manR a).fst.length).size : Int) == manN a * (21 : Int) + manN a - (1 : Int)) = true)))))
theorem manV_eq (a b : Int) : manV a b = (funC cxg Tryd.f8 (mkSc (manE a b) (bodyOf Tryd.f8)) [XI a, XI b] (XB true)) := by kernel_rfl
theorem and_mask (x m : Int) (h0 : 0 ≤ m) (h1 : m ≤ 9223372036854775807) : 0 ≤ bits .and .i64 x m ∧ bits .and .i64 x m ≤ m := by
  have hb : (BitVec.ofInt 64 m).toNat = m.toNat := by
    rw [BitVec.toNat_ofInt, Int.emod_eq_of_lt h0 (by omega)]
  have h2 : (BitVec.ofInt 64 x &&& BitVec.ofInt 64 m).toNat ≤ m.toNat := by
    rw [BitVec.toNat_and, hb]; exact Nat.and_le_right
  have e : bits .and .i64 x m = ((BitVec.ofInt 64 x &&& BitVec.ofInt 64 m).toNat : Int) := by
    show IntKind.i64.wrap ((BitVec.ofInt 64 x &&& BitVec.ofInt 64 m).toNat : Int) = _
    generalize (BitVec.ofInt 64 x &&& BitVec.ofInt 64 m).toNat = t at h2
    exact wrap64_in (by omega) (by omega)
  rw [e]
  omega
theorem manT_size : ∀ k, (manT k).size = 22 * k
  | 0 => rfl
  | k + 1 => by
    rw [manT, ByteArray.size_append, manT_size k]
    show 22 * k + 22 = _
    omega
def manS : Sr := ⟨2, false, true, false, false, true⟩
theorem man_0 : parse (manT 0) = (dflt, 0) := by kernel_rfl
theorem man_1 : parse (manT 1) = ([manS], 0) := by kernel_rfl
theorem man_2 : parse (manT 2) = ([manS, manS], 0) := by kernel_rfl
theorem man_3 : parse (manT 3) = ([manS, manS, manS], 0) := by kernel_rfl
theorem man_4 : parse (manT 4) = ([manS, manS, manS, manS], 0) := by kernel_rfl
theorem man_5 : parse (manT 5) = ([], 2) := by kernel_rfl
theorem man_6 : parse (manT 6) = ([], 2) := by kernel_rfl
theorem man_7 : parse (manT 7) = ([], 2) := by kernel_rfl
theorem man_v (a b : Int) : manV a b := by
  have hm : 0 ≤ manN a ∧ manN a ≤ 7 := and_mask a 7 (by omega) (by omega)
  obtain ⟨n, hn⟩ : ∃ n : Nat, manN a = n := ⟨(manN a).toNat, by omega⟩
  have hn7 : n ≤ 7 := by omega
  have hR : manR a = parse (manT n) := by unfold manR; rw [hn]; rfl
  unfold manV
  refine ⟨fun h => absurd h (by decide), fun _ => ⟨⟨⟨0⟩, ?_, by and_intros <;> first | exact rfl | trivial⟩, fun x hx => ?_⟩⟩
  · show (0 : Int) ≤ manN a
    omega
  have hx : (x.i : Int) ≤ manN a := hx
  have hsz := manT_size x.i
  refine ⟨fun h => ?_, fun h => ?_⟩
  · have hlt : (x.i : Int) < manN a := by simpa using h
    refine ⟨by omega, by unfold in64; omega, ⟨x.i + 1⟩, ?_, by show (manN a).toNat - (x.i + 1) < (manN a).toNat - x.i; omega, by and_intros <;> first | exact rfl | trivial⟩
    show ((x.i + 1 : Nat) : Int) ≤ manN a
    omega
  have hxn : x.i = n := by
    have : ¬ (x.i : Int) < manN a := by simpa using h
    omega
  rw [hR]
  clear hR hx h
  rw [hxn] at hsz ⊢
  rw [hn]
  clear hm hn
  refine ⟨by omega, fun h4 => ?_, fun h4 => ⟨fun h0 => ?_, fun h0 => ?_⟩⟩
  · have h4 : 5 ≤ n := by
      have : (4 : Int) < n := by simpa using h4
      omega
    have hc : n = 5 ∨ n = 6 ∨ n = 7 := by omega
    rcases hc with rfl | rfl | rfl
    · rw [man_5]; rfl
    · rw [man_6]; rfl
    · rw [man_7]; rfl
  · have h0 : n = 0 := by
      have : (n : Int) = 0 := by simpa using h0
      omega
    subst h0
    rw [man_0]
    exact ⟨fun _ _ _ => rfl, fun _ _ _ => rfl, fun _ => by decide, fun _ => by decide, by kernel_rfl⟩
  · have h4 : n ≤ 4 := by
      have : ¬ (4 : Int) < n := by simpa using h4
      omega
    have h0 : n ≠ 0 := by
      intro e
      rw [e] at h0
      exact absurd h0 (by decide)
    have hc : n = 1 ∨ n = 2 ∨ n = 3 ∨ n = 4 := by omega
    have hr : parse (manT n) = (List.replicate n manS, 0) := by
      rcases hc with rfl | rfl | rfl | rfl
      · exact man_1
      · exact man_2
      · exact man_3
      · exact man_4
    have hg : ∀ i, i < (List.replicate n manS).length → (List.replicate n manS).getD i default = manS := fun i hi => by
      rw [List.length_replicate] at hi
      simp [List.getD_eq_getElem?_getD, List.getElem?_replicate, hi]
    have hl : (List.replicate n manS).length = n := List.length_replicate
    rw [hr]
    refine ⟨⟨⟨0⟩, Nat.zero_le _, by and_intros <;> first | exact rfl | trivial⟩, fun y hy => ⟨fun h => ?_, fun h => ?_⟩⟩
    · have hlt : y.i < (List.replicate n manS).length := by
        have : (y.i : Int) < ((List.replicate n manS).length : Int) := of_decide_eq_true h
        omega
      have e : (List.replicate n manS).getD (y.i : Int).toNat default = manS := hg _ hlt
      rw [e]
      refine ⟨by omega, Int.ofNat_lt.2 hlt, fun h5 => absurd h5 (by decide), fun h5 => ⟨by unfold in64; omega, ⟨y.i + 1⟩, hlt, by show (List.replicate n manS).length - (y.i + 1) < (List.replicate n manS).length - y.i; omega, by and_intros <;> first | exact rfl | trivial⟩⟩
    · refine ⟨fun _ _ _ => rfl, fun _ => by show (List.replicate n manS).length ≤ 4; omega, fun _ i hi => by rw [hg i hi]; decide, fun _ => by unfold in64; omega, fun _ => by unfold in64; omega, fun _ => by unfold in64; omega, ?_⟩
      rcases hc with rfl | rfl | rfl | rfl
      · kernel_rfl
      · kernel_rfl
      · kernel_rfl
      · kernel_rfl
theorem man_ok : CTok Tryd.prog 8 (C2 dInt dInt (fun _ _ => []) fun _ _ => XB true) := C2_ok cxg_ok Tryd.func8 rfl (by decide) dInt_eq.ok dInt_eq.ok (by kernel_rfl) (fun _ _ => rfl) fun a b _ => exv (manV_eq a b) (man_v a b)
end Go.Proofs.YtihplidgomjoeaaDoorAv
