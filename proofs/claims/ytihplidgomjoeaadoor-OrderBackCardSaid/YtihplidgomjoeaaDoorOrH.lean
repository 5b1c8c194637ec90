/- order's laws: Plain. -/
import Derived.Test.YtihplidgomjoeaaDoorOrF
import Derived.Test.YtihplidgomjoeaaDoorOrG
set_option linter.unusedVariables false
set_option linter.unusedSimpArgs false
set_option maxRecDepth 100000
namespace Go.Proofs.YtihplidgomjoeaaDoorAv
open Go Go.RowKit
def plK (x : Int) : Int := (x.tmod 3 + 3).tmod 3
def plT (q : Sq Int) : Nat → ByteArray
  | 0 => ⟨#[]⟩
  | i + 1 => plT q i ++ (⟨#[32]⟩ ++ kindG (plK (q.g i)).toNat)
def plI (q : Sq Int) : Inv where
  σ := IX
  S := fun x => ⟨[(0, sqX 1 (fun s => [XI s]) q), (3, .fz 3 1 fun i => [XT (kindG i)]), (4, XT (plT q x.i)), (5, .sl 0 6 0 x.i), (21, sqX 1 (fun s => [XI s]) q), (22, XI q.n), (23, XI x.i)], [(0, .vec 31 true x.i 6 fun j => (srcM (plK (q.g j) + 1)).cells)], 1, false, []⟩
  inv := fun x => x.i ≤ q.n
  μ := fun x => q.n - x.i
def plE (q : Sq Int) : Env := { loops := [(0, plI q)], own := [(8, [(5, 31, 6)])], frz := [(17, [5])] }
def plV (q : Sq Int) : Prop :=
  ((!true) = true → false = true) ∧ ((!true) = false → (decide ((↑q.n : Int) > (10 : Int)) = true → true = true) ∧ (decide ((↑q.n : Int) > (10 : Int)) = false → (∃ (x : (plI q).σ), x.i.le q.n ∧ true = true ∧ ((XV.fz q.n (1 : Nat) fun (i : Nat) => [XI (q.g i)]) = XV.fz q.n (1 : Nat) fun (i : Nat) => [XI (q.g i)]) ∧ ((XV.fz (3 : Nat) (1 : Nat) fun (j : Nat) => [XT ([{ data := #[(102 : UInt8), (105 : UInt8), (108 : UInt8), (101 : UInt8), (115 : UInt8)] : ByteArray }, { data := #[(100 : UInt8), (110 : UInt8), (115 : UInt8)] : ByteArray }, { data := #[(108 : UInt8), (108 : UInt8), (109 : UInt8), (110 : UInt8), (114 : UInt8)] : ByteArray }].getD j { data := #[] : ByteArray })]) = XV.fz (3 : Nat) (1 : Nat) fun (i : Nat) => [XT (kindG i)]) ∧ { data := #[] : ByteArray } = plT q x.i ∧ XV.sl (0 : Nat) (6 : Nat) (0 : Nat) (0 : Nat) = XV.sl (0 : Nat) (6 : Nat) (0 : Nat) x.i ∧ ((XV.fz q.n (1 : Nat) fun (i : Nat) => [XI (q.g i)]) = XV.fz q.n (1 : Nat) fun (i : Nat) => [XI (q.g i)]) ∧ (↑q.n : Int) = (↑q.n : Int) ∧ (0 : Int) = (↑x.i : Int) ∧ (((31 : Nat) = (31 : TypeId) ∧ true = true ∧ (6 : Nat) = (6 : Nat)) ∧ (0 : Nat) = x.i ∧ ∀ (j : Nat), j < (0 : Nat) → [] = [XI ((srcM (plK (q.g j) + (1 : Int))).k), XB ((srcM (plK (q.g j) + (1 : Int))).r0), XB ((srcM (plK (q.g j) + (1 : Int))).r1), XB ((srcM (plK (q.g j) + (1 : Int))).r2), XB ((srcM (plK (q.g j) + (1 : Int))).r3), XB ((srcM (plK (q.g j) + (1 : Int))).r4)]) ∧ True) ∧ ∀ (x : IX), x.i.le q.n → (decide ((↑x.i : Int) < (↑q.n : Int)) = true → (0 : Int) ≤ (↑x.i : Int) ∧ (↑x.i : Int) < (↑q.n : Int) ∧ (3 : Int) ≠ (0 : Int) ∧ in64 ((q.g (↑x.i : Int).toNat).tmod (3 : Int) + (3 : Int)) ∧ (3 : Int) ≠ (0 : Int) ∧ (0 : Int) ≤ ((q.g (↑x.i : Int).toNat).tmod (3 : Int) + (3 : Int)).tmod (3 : Int) ∧ ((q.g (↑x.i : Int).toNat).tmod (3 : Int) + (3 : Int)).tmod (3 : Int) < (↑(3 : Nat) : Int) ∧ (1 : Nat) + (kindG (((q.g (↑x.i : Int).toNat).tmod (3 : Int) + (3 : Int)).tmod (3 : Int)).toNat).size ≤ (9223372036854775807 : Nat) ∧ (plT q x.i).size + ({ data := #[(32 : UInt8)] : ByteArray } ++ kindG (((q.g (↑x.i : Int).toNat).tmod (3 : Int) + (3 : Int)).tmod (3 : Int)).toNat).size ≤ (9223372036854775807 : Nat) ∧ in64 (((q.g (↑x.i : Int).toNat).tmod (3 : Int) + (3 : Int)).tmod (3 : Int) + (1 : Int)) ∧ (0 : Int) ≤ (1 : Int) ∧ (1 : Int) < (↑(5 : Nat) : Int) ∧ (1 : Nat) < [false, false, false, false, false].length ∧ x.i = x.i ∧ (x.i + (1 : Nat)) * (16 : Nat) ≤ (140737488355328 : Nat) ∧ x.i + (1 : Nat) ≤ (140737488355328 : Nat) ∧ in64 ((↑x.i : Int) + (1 : Int)) ∧ ∃ (x' : (plI q).σ), x'.i.le q.n ∧ q.n - x'.i < q.n - x.i ∧ true = true ∧ ((XV.fz q.n (1 : Nat) fun (i : Nat) => [XI (q.g i)]) = XV.fz q.n (1 : Nat) fun (i : Nat) => [XI (q.g i)]) ∧ ((XV.fz (3 : Nat) (1 : Nat) fun (i : Nat) => [XT (kindG i)]) = XV.fz (3 : Nat) (1 : Nat) fun (i : Nat) => [XT (kindG i)]) ∧ plT q x.i ++ ({ data := #[(32 : UInt8)] : ByteArray } ++ kindG (((q.g (↑x.i : Int).toNat).tmod (3 : Int) + (3 : Int)).tmod (3 : Int)).toNat) = plT q x'.i ∧ XV.sl (0 : Nat) (6 : Nat) (0 : Nat) (x.i + (1 : Nat)) = XV.sl (0 : Nat) (6 : Nat) (0 : Nat) x'.i ∧ ((XV.fz q.n (1 : Nat) fun (i : Nat) => [XI (q.g i)]) = XV.fz q.n (1 : Nat) fun (i : Nat) => [XI (q.g i)]) ∧ (↑q.n : Int) = (↑q.n : Int) ∧ (↑x.i : Int) + (1 : Int) = (↑x'.i : Int) ∧ (((31 : TypeId) = (31 : TypeId) ∧ true = true ∧ (6 : Nat) = (6 : Nat)) ∧ x.i + (1 : Nat) = x'.i ∧ ∀ (j : Nat), j < x.i + (1 : Nat) → (bif j.blt x.i then [XI ((srcM (plK (q.g j) + (1 : Int))).k), XB ((srcM (plK (q.g j) + (1 : Int))).r0), XB ((srcM (plK (q.g j) + (1 : Int))).r1), XB ((srcM (plK (q.g j) + (1 : Int))).r2), XB ((srcM (plK (q.g j) + (1 : Int))).r3), XB ((srcM (plK (q.g j) + (1 : Int))).r4)] else [XI (((q.g (↑x.i : Int).toNat).tmod (3 : Int) + (3 : Int)).tmod (3 : Int) + (1 : Int)), XB false, XB true, XB false, XB false, XB false]) = [XI ((srcM (plK (q.g j) + (1 : Int))).k), XB ((srcM (plK (q.g j) + (1 : Int))).r0), XB ((srcM (plK (q.g j) + (1 : Int))).r1), XB ((srcM (plK (q.g j) + (1 : Int))).r2), XB ((srcM (plK (q.g j) + (1 : Int))).r3), XB ((srcM (plK (q.g j) + (1 : Int))).r4)]) ∧ True) ∧ (decide ((↑x.i : Int) < (↑q.n : Int)) = false → x.i = x.i ∧ (plT q x.i).size ≤ (100000 : Nat) ∧ (decide ((↑q.n : Int) > (4 : Int)) = true → ((parse (plT q x.i)).snd == (2 : Int)) = true) ∧ (decide ((↑q.n : Int) > (4 : Int)) = false → (((↑q.n : Int) == (0 : Int)) = true → (plT q x.i).size + (4 : Nat) ≤ (9223372036854775807 : Nat) ∧ (plT q x.i ++ { data := #[(32 : UInt8), (110 : UInt8), (105 : UInt8), (115 : UInt8)] : ByteArray }).size ≤ (100000 : Nat) ∧ (((parse (plT q x.i)).snd == (0 : Int)) = true → ∀ (i : Nat), i < (parse (plT q x.i)).fst.length → [XI (((parse (plT q x.i)).fst.getD i default).k), XB (((parse (plT q x.i)).fst.getD i default).r0), XB (((parse (plT q x.i)).fst.getD i default).r1), XB (((parse (plT q x.i)).fst.getD i default).r2), XB (((parse (plT q x.i)).fst.getD i default).r3), XB (((parse (plT q x.i)).fst.getD i default).r4)] = [XI ((srD [XI (((parse (plT q x.i)).fst.getD i default).k), XB (((parse (plT q x.i)).fst.getD i default).r0), XB (((parse (plT q x.i)).fst.getD i default).r1), XB (((parse (plT q x.i)).fst.getD i default).r2), XB (((parse (plT q x.i)).fst.getD i default).r3), XB (((parse (plT q x.i)).fst.getD i default).r4)]).k), XB ((srD [XI (((parse (plT q x.i)).fst.getD i default).k), XB (((parse (plT q x.i)).fst.getD i default).r0), XB (((parse (plT q x.i)).fst.getD i default).r1), XB (((parse (plT q x.i)).fst.getD i default).r2), XB (((parse (plT q x.i)).fst.getD i default).r3), XB (((parse (plT q x.i)).fst.getD i default).r4)]).r0), XB ((srD [XI (((parse (plT q x.i)).fst.getD i default).k), XB (((parse (plT q x.i)).fst.getD i default).r0), XB (((parse (plT q x.i)).fst.getD i default).r1), XB (((parse (plT q x.i)).fst.getD i default).r2), XB (((parse (plT q x.i)).fst.getD i default).r3), XB (((parse (plT q x.i)).fst.getD i default).r4)]).r1), XB ((srD [XI (((parse (plT q x.i)).fst.getD i default).k), XB (((parse (plT q x.i)).fst.getD i default).r0), XB (((parse (plT q x.i)).fst.getD i default).r1), XB (((parse (plT q x.i)).fst.getD i default).r2), XB (((parse (plT q x.i)).fst.getD i default).r3), XB (((parse (plT q x.i)).fst.getD i default).r4)]).r2), XB ((srD [XI (((parse (plT q x.i)).fst.getD i default).k), XB (((parse (plT q x.i)).fst.getD i default).r0), XB (((parse (plT q x.i)).fst.getD i default).r1), XB (((parse (plT q x.i)).fst.getD i default).r2), XB (((parse (plT q x.i)).fst.getD i default).r3), XB (((parse (plT q x.i)).fst.getD i default).r4)]).r3), XB ((srD [XI (((parse (plT q x.i)).fst.getD i default).k), XB (((parse (plT q x.i)).fst.getD i default).r0), XB (((parse (plT q x.i)).fst.getD i default).r1), XB (((parse (plT q x.i)).fst.getD i default).r2), XB (((parse (plT q x.i)).fst.getD i default).r3), XB (((parse (plT q x.i)).fst.getD i default).r4)]).r4)]) ∧ (((parse (plT q x.i)).snd == (0 : Int)) = true → ∀ (i : Nat), i < (3 : Nat) → [XI (([srcM (1 : Int), srcM (2 : Int), srcM (3 : Int)].getD i default).k), XB (([srcM (1 : Int), srcM (2 : Int), srcM (3 : Int)].getD i default).r0), XB (([srcM (1 : Int), srcM (2 : Int), srcM (3 : Int)].getD i default).r1), XB (([srcM (1 : Int), srcM (2 : Int), srcM (3 : Int)].getD i default).r2), XB (([srcM (1 : Int), srcM (2 : Int), srcM (3 : Int)].getD i default).r3), XB (([srcM (1 : Int), srcM (2 : Int), srcM (3 : Int)].getD i default).r4)] = [XI ((srD [XI (([srcM (1 : Int), srcM (2 : Int), srcM (3 : Int)].getD i default).k), XB (([srcM (1 : Int), srcM (2 : Int), srcM (3 : Int)].getD i default).r0), XB (([srcM (1 : Int), srcM (2 : Int), srcM (3 : Int)].getD i default).r1), XB (([srcM (1 : Int), srcM (2 : Int), srcM (3 : Int)].getD i default).r2), XB (([srcM (1 : Int), srcM (2 : Int), srcM (3 : Int)].getD i default).r3), XB (([srcM (1 : Int), srcM (2 : Int), srcM (3 : Int)].getD i default).r4)]).k), XB ((srD [XI (([srcM (1 : Int), srcM (2 : Int), srcM (3 : Int)].getD i default).k), XB (([srcM (1 : Int), srcM (2 : Int), srcM (3 : Int)].getD i default).r0), XB (([srcM (1 : Int), srcM (2 : Int), srcM (3 : Int)].getD i default).r1), XB (([srcM (1 : Int), srcM (2 : Int), srcM (3 : Int)].getD i default).r2), XB (([srcM (1 : Int), srcM (2 : Int), srcM (3 : Int)].getD i default).r3), XB (([srcM (1 : Int), srcM (2 : Int), srcM (3 : Int)].getD i default).r4)]).r0), XB ((srD [XI (([srcM (1 : Int), srcM (2 : Int), srcM (3 : Int)].getD i default).k), XB (([srcM (1 : Int), srcM (2 : Int), srcM (3 : Int)].getD i default).r0), XB (([srcM (1 : Int), srcM (2 : Int), srcM (3 : Int)].getD i default).r1), XB (([srcM (1 : Int), srcM (2 : Int), srcM (3 : Int)].getD i default).r2), XB (([srcM (1 : Int), srcM (2 : Int), srcM (3 : Int)].getD i default).r3), XB (([srcM (1 : Int), srcM (2 : Int), srcM (3 : Int)].getD i default).r4)]).r1), XB ((srD [XI (([srcM (1 : Int), srcM (2 : Int), srcM (3 : Int)].getD i default).k), XB (([srcM (1 : Int), srcM (2 : Int), srcM (3 : Int)].getD i default).r0), XB (([srcM (1 : Int), srcM (2 : Int), srcM (3 : Int)].getD i default).r1), XB (([srcM (1 : Int), srcM (2 : Int), srcM (3 : Int)].getD i default).r2), XB (([srcM (1 : Int), srcM (2 : Int), srcM (3 : Int)].getD i default).r3), XB (([srcM (1 : Int), srcM (2 : Int), srcM (3 : Int)].getD i default).r4)]).r2), XB ((srD [XI (([srcM (1 : Int), srcM (2 : Int), srcM (3 : Int)].getD i default).k), XB (([srcM (1 : Int), srcM (2 : Int), srcM (3 : Int)].getD i default).r0), XB (([srcM (1 : Int), srcM (2 : Int), srcM (3 : Int)].getD i default).r1), XB (([srcM (1 : Int), srcM (2 : Int), srcM (3 : Int)].getD i default).r2), XB (([srcM (1 : Int), srcM (2 : Int), srcM (3 : Int)].getD i default).r3), XB (([srcM (1 : Int), srcM (2 : Int), srcM (3 : Int)].getD i default).r4)]).r3), XB ((srD [XI (([srcM (1 : Int), srcM (2 : Int), srcM (3 : Int)].getD i default).k), XB (([srcM (1 : Int), srcM (2 : Int), srcM (3 : Int)].getD i default).r0), XB (([srcM (1 : Int), srcM (2 : Int), srcM (3 : Int)].getD i default).r1), XB (([srcM (1 : Int), srcM (2 : Int), srcM (3 : Int)].getD i default).r2), XB (([srcM (1 : Int), srcM (2 : Int), srcM (3 : Int)].getD i default).r3), XB (([srcM (1 : Int), srcM (2 : Int), srcM (3 : Int)].getD i default).r4)]).r4)]) ∧ (((parse (plT q x.i)).snd == (0 : Int)) = true → (parse (plT q x.i)).fst.length ≤ (1000000 : Nat)) ∧ (((parse (plT q x.i)).snd == (0 : Int)) = true → (3 : Nat) ≤ (1000000 : Nat)) ∧ (((parse (plT q x.i)).snd == (0 : Int) && (decide ((parse (plT q x.i)).fst.length = (3 : Nat)) && sameF (fun (i : Nat) => srD [XI (((parse (plT q x.i)).fst.getD i default).k), XB (((parse (plT q x.i)).fst.getD i default).r0), XB (((parse (plT q x.i)).fst.getD i default).r1), XB (((parse (plT q x.i)).fst.getD i default).r2), XB (((parse (plT q x.i)).fst.getD i default).r3), XB (((parse (plT q x.i)).fst.getD i default).r4)]) (fun (i : Nat) => srD [XI (([srcM (1 : Int), srcM (2 : Int), srcM (3 : Int)].getD i default).k), XB (([srcM (1 : Int), srcM (2 : Int), srcM (3 : Int)].getD i default).r0), XB (([srcM (1 : Int), srcM (2 : Int), srcM (3 : Int)].getD i default).r1), XB (([srcM (1 : Int), srcM (2 : Int), srcM (3 : Int)].getD i default).r2), XB (([srcM (1 : Int), srcM (2 : Int), srcM (3 : Int)].getD i default).r3), XB (([srcM (1 : Int), srcM (2 : Int), srcM (3 : Int)].getD i default).r4)]) (parse (plT q x.i)).fst.length (0 : Nat)) && ((parse (plT q x.i ++ { data := #[(32 : UInt8), (110 : UInt8), (105 : UInt8), (115 : UInt8)] : ByteArray })).snd == (6 : Int) || (↑q.n : Int) == (4 : Int)) && (↑(3 : Nat) : Int) == (3 : Int)) = true → (0 : Int) ≤ (0 : Int)) ∧ (((parse (plT q x.i)).snd == (0 : Int) && (decide ((parse (plT q x.i)).fst.length = (3 : Nat)) && sameF (fun (i : Nat) => srD [XI (((parse (plT q x.i)).fst.getD i default).k), XB (((parse (plT q x.i)).fst.getD i default).r0), XB (((parse (plT q x.i)).fst.getD i default).r1), XB (((parse (plT q x.i)).fst.getD i default).r2), XB (((parse (plT q x.i)).fst.getD i default).r3), XB (((parse (plT q x.i)).fst.getD i default).r4)]) (fun (i : Nat) => srD [XI (([srcM (1 : Int), srcM (2 : Int), srcM (3 : Int)].getD i default).k), XB (([srcM (1 : Int), srcM (2 : Int), srcM (3 : Int)].getD i default).r0), XB (([srcM (1 : Int), srcM (2 : Int), srcM (3 : Int)].getD i default).r1), XB (([srcM (1 : Int), srcM (2 : Int), srcM (3 : Int)].getD i default).r2), XB (([srcM (1 : Int), srcM (2 : Int), srcM (3 : Int)].getD i default).r3), XB (([srcM (1 : Int), srcM (2 : Int), srcM (3 : Int)].getD i default).r4)]) (parse (plT q x.i)).fst.length (0 : Nat)) && ((parse (plT q x.i ++ { data := #[(32 : UInt8), (110 : UInt8), (105 : UInt8), (115 : UInt8)] : ByteArray })).snd == (6 : Int) || (↑q.n : Int) == (4 : Int)) && (↑(3 : Nat) : Int) == (3 : Int)) = true → (0 : Int) < (↑(3 : Nat) : Int)) ∧ (((parse (plT q x.i)).snd == (0 : Int) && (decide ((parse (plT q x.i)).fst.length = (3 : Nat)) && sameF (fun (i : Nat) => srD [XI (((parse (plT q x.i)).fst.getD i default).k), XB (((parse (plT q x.i)).fst.getD i default).r0), XB (((parse (plT q x.i)).fst.getD i default).r1), XB (((parse (plT q x.i)).fst.getD i default).r2), XB (((parse (plT q x.i)).fst.getD i default).r3), XB (((parse (plT q x.i)).fst.getD i default).r4)]) (fun (i : Nat) => srD [XI (([srcM (1 : Int), srcM (2 : Int), srcM (3 : Int)].getD i default).k), XB (([srcM (1 : Int), srcM (2 : Int), srcM (3 : Int)].getD i default).r0), XB (([srcM (1 : Int), srcM (2 : Int), srcM (3 : Int)].getD i default).r1), XB (([srcM (1 : Int), srcM (2 : Int), srcM (3 : Int)].getD i default).r2), XB (([srcM (1 : Int), srcM (2 : Int), srcM (3 : Int)].getD i default).r3), XB (([srcM (1 : Int), srcM (2 : Int), srcM (3 : Int)].getD i default).r4)]) (parse (plT q x.i)).fst.length (0 : Nat)) && ((parse (plT q x.i ++ { data := #[(32 : UInt8), (110 : UInt8), (105 : UInt8), (115 : UInt8)] : ByteArray })).snd == (6 : Int) || (↑q.n : Int) == (4 : Int)) && (↑(3 : Nat) : Int) == (3 : Int) && ([srcM (1 : Int), srcM (2 : Int), srcM (3 : Int)].getD ((0 : Nat)) default).k == (1 : Int)) = true → (0 : Int) ≤ (2 : Int)) ∧ (((parse (plT q x.i)).snd == (0 : Int) && (decide ((parse (plT q x.i)).fst.length = (3 : Nat)) && sameF (fun (i : Nat) => srD [XI (((parse (plT q x.i)).fst.getD i default).k), XB (((parse (plT q x.i)).fst.getD i default).r0), XB (((parse (plT q x.i)).fst.getD i default).r1), XB (((parse (plT q x.i)).fst.getD i default).r2), XB (((parse (plT q x.i)).fst.getD i default).r3), XB (((parse (plT q x.i)).fst.getD i default).r4)]) (fun (i : Nat) => srD [XI (([srcM (1 : Int), srcM (2 : Int), srcM (3 : Int)].getD i default).k), XB (([srcM (1 : Int), srcM (2 : Int), srcM (3 : Int)].getD i default).r0), XB (([srcM (1 : Int), srcM (2 : Int), srcM (3 : Int)].getD i default).r1), XB (([srcM (1 : Int), srcM (2 : Int), srcM (3 : Int)].getD i default).r2), XB (([srcM (1 : Int), srcM (2 : Int), srcM (3 : Int)].getD i default).r3), XB (([srcM (1 : Int), srcM (2 : Int), srcM (3 : Int)].getD i default).r4)]) (parse (plT q x.i)).fst.length (0 : Nat)) && ((parse (plT q x.i ++ { data := #[(32 : UInt8), (110 : UInt8), (105 : UInt8), (115 : UInt8)] : ByteArray })).snd == (6 : Int) || (↑q.n : Int) == (4 : Int)) && (↑(3 : Nat) : Int) == (3 : Int) && ([srcM (1 : Int), srcM (2 : Int), srcM (3 : Int)].getD ((0 : Nat)) default).k == (1 : Int)) = true → (2 : Int) < (↑(3 : Nat) : Int)) ∧ ((parse (plT q x.i)).snd == (0 : Int) && (decide ((parse (plT q x.i)).fst.length = (3 : Nat)) && sameF (fun (i : Nat) => srD [XI (((parse (plT q x.i)).fst.getD i default).k), XB (((parse (plT q x.i)).fst.getD i default).r0), XB (((parse (plT q x.i)).fst.getD i default).r1), XB (((parse (plT q x.i)).fst.getD i default).r2), XB (((parse (plT q x.i)).fst.getD i default).r3), XB (((parse (plT q x.i)).fst.getD i default).r4)]) (fun (i : Nat) => srD [XI (([srcM (1 : Int), srcM (2 : Int), srcM (3 : Int)].getD i default).k), XB (([srcM (1 : Int), srcM (2 : Int), srcM (3 : Int)].getD i default).r0), XB (([srcM (1 : Int), srcM (2 : Int), srcM (3 : Int)].getD i default).r1), XB (([srcM (1 : Int), srcM (2 : Int), srcM (3 : Int)].getD i default).r2), XB (([srcM (1 : Int), srcM (2 : Int), srcM (3 : Int)].getD i default).r3), XB (([srcM (1 : Int), srcM (2 : Int), srcM (3 : Int)].getD i default).r4)]) (parse (plT q x.i)).fst.length (0 : Nat)) && ((parse (plT q x.i ++ { data := #[(32 : UInt8), (110 : UInt8), (105 : UInt8), (115 : UInt8)] : ByteArray })).snd == (6 : Int) || (↑q.n : Int) == (4 : Int)) && (↑(3 : Nat) : Int) == (3 : Int) && ([srcM (1 : Int), srcM (2 : Int), srcM (3 : Int)].getD ((0 : Nat)) default).k == (1 : Int) && ([srcM (1 : Int), srcM (2 : Int), srcM (3 : Int)].getD ((2 : Nat)) default).k == (3 : Int)) = true) ∧ (((↑q.n : Int) == (0 : Int)) = false → (plT q x.i).size + (4 : Nat) ≤ (9223372036854775807 : Nat) ∧ (plT q x.i ++ { data := #[(32 : UInt8), (110 : UInt8), (105 : UInt8), (115 : UInt8)] : ByteArray }).size ≤ (100000 : Nat) ∧ (((parse (plT q x.i)).snd == (0 : Int)) = true → ∀ (i : Nat), i < (parse (plT q x.i)).fst.length → [XI (((parse (plT q x.i)).fst.getD i default).k), XB (((parse (plT q x.i)).fst.getD i default).r0), XB (((parse (plT q x.i)).fst.getD i default).r1), XB (((parse (plT q x.i)).fst.getD i default).r2), XB (((parse (plT q x.i)).fst.getD i default).r3), XB (((parse (plT q x.i)).fst.getD i default).r4)] = [XI ((srD [XI (((parse (plT q x.i)).fst.getD i default).k), XB (((parse (plT q x.i)).fst.getD i default).r0), XB (((parse (plT q x.i)).fst.getD i default).r1), XB (((parse (plT q x.i)).fst.getD i default).r2), XB (((parse (plT q x.i)).fst.getD i default).r3), XB (((parse (plT q x.i)).fst.getD i default).r4)]).k), XB ((srD [XI (((parse (plT q x.i)).fst.getD i default).k), XB (((parse (plT q x.i)).fst.getD i default).r0), XB (((parse (plT q x.i)).fst.getD i default).r1), XB (((parse (plT q x.i)).fst.getD i default).r2), XB (((parse (plT q x.i)).fst.getD i default).r3), XB (((parse (plT q x.i)).fst.getD i default).r4)]).r0), XB ((srD [XI (((parse (plT q x.i)).fst.getD i default).k), XB (((parse (plT q x.i)).fst.getD i default).r0), XB (((parse (plT q x.i)).fst.getD i default).r1), XB (((parse (plT q x.i)).fst.getD i default).r2), XB (((parse (plT q x.i)).fst.getD i default).r3), XB (((parse (plT q x.i)).fst.getD i default).r4)]).r1), XB ((srD [XI (((parse (plT q x.i)).fst.getD i default).k), XB (((parse (plT q x.i)).fst.getD i default).r0), XB (((parse (plT q x.i)).fst.getD i default).r1), XB (((parse (plT q x.i)).fst.getD i default).r2), XB (((parse (plT q x.i)).fst.getD i default).r3), XB (((parse (plT q x.i)).fst.getD i default).r4)]).r2), XB ((srD [XI (((parse (plT q x.i)).fst.getD i default).k), XB (((parse (plT q x.i)).fst.getD i default).r0), XB (((parse (plT q x.i)).fst.getD i default).r1), XB (((parse (plT q x.i)).fst.getD i default).r2), XB (((parse (plT q x.i)).fst.getD i default).r3), XB (((parse (plT q x.i)).fst.getD i default).r4)]).r3), XB ((srD [XI (((parse (plT q x.i)).fst.getD i default).k), XB (((parse (plT q x.i)).fst.getD i default).r0), XB (((parse (plT q x.i)).fst.getD i default).r1), XB (((parse (plT q x.i)).fst.getD i default).r2), XB (((parse (plT q x.i)).fst.getD i default).r3), XB (((parse (plT q x.i)).fst.getD i default).r4)]).r4)]) ∧ (((parse (plT q x.i)).snd == (0 : Int)) = true → ∀ (i : Nat), i < x.i → [XI ((srcM (plK (q.g i) + (1 : Int))).k), XB ((srcM (plK (q.g i) + (1 : Int))).r0), XB ((srcM (plK (q.g i) + (1 : Int))).r1), XB ((srcM (plK (q.g i) + (1 : Int))).r2), XB ((srcM (plK (q.g i) + (1 : Int))).r3), XB ((srcM (plK (q.g i) + (1 : Int))).r4)] = [XI ((srD [XI ((srcM (plK (q.g i) + (1 : Int))).k), XB ((srcM (plK (q.g i) + (1 : Int))).r0), XB ((srcM (plK (q.g i) + (1 : Int))).r1), XB ((srcM (plK (q.g i) + (1 : Int))).r2), XB ((srcM (plK (q.g i) + (1 : Int))).r3), XB ((srcM (plK (q.g i) + (1 : Int))).r4)]).k), XB ((srD [XI ((srcM (plK (q.g i) + (1 : Int))).k), XB ((srcM (plK (q.g i) + (1 : Int))).r0), XB ((srcM (plK (q.g i) + (1 : Int))).r1), XB ((srcM (plK (q.g i) + (1 : Int))).r2), XB ((srcM (plK (q.g i) + (1 : Int))).r3), XB ((srcM (plK (q.g i) + (1 : Int))).r4)]).r0), XB ((srD [XI ((srcM (plK (q.g i) + (1 : Int))).k), XB ((srcM (plK (q.g i) + (1 : Int))).r0), XB ((srcM (plK (q.g i) + (1 : Int))).r1), XB ((srcM (plK (q.g i) + (1 : Int))).r2), XB ((srcM (plK (q.g i) + (1 : Int))).r3), XB ((srcM (plK (q.g i) + (1 : Int))).r4)]).r1), XB ((srD [XI ((srcM (plK (q.g i) + (1 : Int))).k), XB ((srcM (plK (q.g i) + (1 : Int))).r0), XB ((srcM (plK (q.g i) + (1 : Int))).r1), XB ((srcM (plK (q.g i) + (1 : Int))).r2), XB ((srcM (plK (q.g i) + (1 : Int))).r3), XB ((srcM (plK (q.g i) + (1 : Int))).r4)]).r2), XB ((srD [XI ((srcM (plK (q.g i) + (1 : Int))).k), XB ((srcM (plK (q.g i) + (1 : Int))).r0), XB ((srcM (plK (q.g i) + (1 : Int))).r1), XB ((srcM (plK (q.g i) + (1 : Int))).r2), XB ((srcM (plK (q.g i) + (1 : Int))).r3), XB ((srcM (plK (q.g i) + (1 : Int))).r4)]).r3), XB ((srD [XI ((srcM (plK (q.g i) + (1 : Int))).k), XB ((srcM (plK (q.g i) + (1 : Int))).r0), XB ((srcM (plK (q.g i) + (1 : Int))).r1), XB ((srcM (plK (q.g i) + (1 : Int))).r2), XB ((srcM (plK (q.g i) + (1 : Int))).r3), XB ((srcM (plK (q.g i) + (1 : Int))).r4)]).r4)]) ∧ (((parse (plT q x.i)).snd == (0 : Int)) = true → (parse (plT q x.i)).fst.length ≤ (1000000 : Nat)) ∧ (((parse (plT q x.i)).snd == (0 : Int)) = true → x.i ≤ (1000000 : Nat)) ∧ (((parse (plT q x.i)).snd == (0 : Int) && (decide ((parse (plT q x.i)).fst.length = x.i) && sameF (fun (i : Nat) => srD [XI (((parse (plT q x.i)).fst.getD i default).k), XB (((parse (plT q x.i)).fst.getD i default).r0), XB (((parse (plT q x.i)).fst.getD i default).r1), XB (((parse (plT q x.i)).fst.getD i default).r2), XB (((parse (plT q x.i)).fst.getD i default).r3), XB (((parse (plT q x.i)).fst.getD i default).r4)]) (fun (i : Nat) => srD [XI ((srcM (plK (q.g i) + (1 : Int))).k), XB ((srcM (plK (q.g i) + (1 : Int))).r0), XB ((srcM (plK (q.g i) + (1 : Int))).r1), XB ((srcM (plK (q.g i) + (1 : Int))).r2), XB ((srcM (plK (q.g i) + (1 : Int))).r3), XB ((srcM (plK (q.g i) + (1 : Int))).r4)]) (parse (plT q x.i)).fst.length (0 : Nat)) && ((parse (plT q x.i ++ { data := #[(32 : UInt8), (110 : UInt8), (105 : UInt8), (115 : UInt8)] : ByteArray })).snd == (6 : Int) || (↑q.n : Int) == (4 : Int)) && (↑(3 : Nat) : Int) == (3 : Int)) = true → (0 : Int) ≤ (0 : Int)) ∧ (((parse (plT q x.i)).snd == (0 : Int) && (decide ((parse (plT q x.i)).fst.length = x.i) && sameF (fun (i : Nat) => srD [XI (((parse (plT q x.i)).fst.getD i default).k), XB (((parse (plT q x.i)).fst.getD i default).r0), XB (((parse (plT q x.i)).fst.getD i default).r1), XB (((parse (plT q x.i)).fst.getD i default).r2), XB (((parse (plT q x.i)).fst.getD i default).r3), XB (((parse (plT q x.i)).fst.getD i default).r4)]) (fun (i : Nat) => srD [XI ((srcM (plK (q.g i) + (1 : Int))).k), XB ((srcM (plK (q.g i) + (1 : Int))).r0), XB ((srcM (plK (q.g i) + (1 : Int))).r1), XB ((srcM (plK (q.g i) + (1 : Int))).r2), XB ((srcM (plK (q.g i) + (1 : Int))).r3), XB ((srcM (plK (q.g i) + (1 : Int))).r4)]) (parse (plT q x.i)).fst.length (0 : Nat)) && ((parse (plT q x.i ++ { data := #[(32 : UInt8), (110 : UInt8), (105 : UInt8), (115 : UInt8)] : ByteArray })).snd == (6 : Int) || (↑q.n : Int) == (4 : Int)) && (↑(3 : Nat) : Int) == (3 : Int)) = true → (0 : Int) < (↑(3 : Nat) : Int)) ∧ (((parse (plT q x.i)).snd == (0 : Int) && (decide ((parse (plT q x.i)).fst.length = x.i) && sameF (fun (i : Nat) => srD [XI (((parse (plT q x.i)).fst.getD i default).k), XB (((parse (plT q x.i)).fst.getD i default).r0), XB (((parse (plT q x.i)).fst.getD i default).r1), XB (((parse (plT q x.i)).fst.getD i default).r2), XB (((parse (plT q x.i)).fst.getD i default).r3), XB (((parse (plT q x.i)).fst.getD i default).r4)]) (fun (i : Nat) => srD [XI ((srcM (plK (q.g i) + (1 : Int))).k), XB ((srcM (plK (q.g i) + (1 : Int))).r0), XB ((srcM (plK (q.g i) + (1 : Int))).r1), XB ((srcM (plK (q.g i) + (1 : Int))).r2), XB ((srcM (plK (q.g i) + (1 : Int))).r3), XB ((srcM (plK (q.g i) + (1 : Int))).r4)]) (parse (plT q x.i)).fst.length (0 : Nat)) && ((parse (plT q x.i ++ { data := #[(32 : UInt8), (110 : UInt8), (105 : UInt8), (115 : UInt8)] : ByteArray })).snd == (6 : Int) || (↑q.n : Int) == (4 : Int)) && (↑(3 : Nat) : Int) == (3 : Int) && ([srcM (1 : Int), srcM (2 : Int), srcM (3 : Int)].getD ((0 : Nat)) default).k == (1 : Int)) = true → (0 : Int) ≤ (2 : Int)) ∧ (((parse (plT q x.i)).snd == (0 : Int) && (decide ((parse (plT q x.i)).fst.length = x.i) && sameF (fun (i : Nat) => srD [XI (((parse (plT q x.i)).fst.getD i default).k), XB (((parse (plT q x.i)).fst.getD i default).r0), XB (((parse (plT q x.i)).fst.getD i default).r1), XB (((parse (plT q x.i)).fst.getD i default).r2), XB (((parse (plT q x.i)).fst.getD i default).r3), XB (((parse (plT q x.i)).fst.getD i default).r4)]) (fun (i : Nat) => srD [XI ((srcM (plK (q.g i) + (1 : Int))).k), XB ((srcM (plK (q.g i) + (1 : Int))).r0), XB ((srcM (plK (q.g i) + (1 : Int))).r1), XB ((srcM (plK (q.g i) + (1 : Int))).r2), XB ((srcM (plK (q.g i) + (1 : Int))).r3), XB ((srcM (plK (q.g i) + (1 : Int))).r4)]) (parse (plT q x.i)).fst.length (0 : Nat)) && ((parse (plT q x.i ++ { data := #[(32 : UInt8), (110 : UInt8), (105 : UInt8), (115 : UInt8)] : ByteArray })).snd == (6 : Int) || (↑q.n : Int) == (4 : Int)) && (↑(3 : Nat) : Int) == (3 : Int) && ([srcM (1 : Int), srcM (2 : Int), srcM (3 : Int)].getD ((0 : Nat)) default).k == (1 : Int)) = true → (2 : Int) < (↑(3 : Nat) : Int)) ∧ ((parse (plT q x.i)).snd == (0 : Int) && (decide ((parse (plT q x.i)).fst.length = x.i) && sameF (fun (i : Nat) => srD [XI (((parse (plT q x.i)).fst.getD i default).k), XB (((parse (plT q x.i)).fst.getD i default).r0), XB (((parse (plT q x.i)).fst.getD i default).r1), XB (((parse (plT q x.i)).fst.getD i default).r2), XB (((parse (plT q x.i)).fst.getD i default).r3), XB (((parse (plT q x.i)).fst.getD i default).r4)]) (fun (i : Nat) => srD [XI ((srcM (plK (q.g i) + (1 : Int))).k), XB ((srcM (plK (q.g i) + (1 : Int))).r0), XB ((srcM (plK (q.g i) + (1 : Int))).r1), XB ((srcM (plK (q.g i) + (1 : Int))).r2), XB ((srcM (plK (q.g i) + (1 : Int))).r3), XB ((srcM (plK (q.g i) + (1 : Int))).r4)]) (parse (plT q x.i)).fst.length (0 : Nat)) && ((parse (plT q x.i ++ { data := #[(32 : UInt8), (110 : UInt8), (105 : UInt8), (115 : UInt8)] : ByteArray })).snd == (6 : Int) || (↑q.n : Int) == (4 : Int)) && (↑(3 : Nat) : Int) == (3 : Int) && ([srcM (1 : Int), srcM (2 : Int), srcM (3 : Int)].getD ((0 : Nat)) default).k == (1 : Int) && ([srcM (1 : Int), srcM (2 : Int), srcM (3 : Int)].getD ((2 : Nat)) default).k == (3 : Int)) = true)))))
theorem plV_eq (q : Sq Int) : plV q = (funC cxg Tryd.f4 (mkSc (plE q) (bodyOf Tryd.f4)) [sqX 1 (fun s => [XI s]) q] (XB true)) := by kernel_rfl
theorem plK_bd (x : Int) : 0 ≤ plK x ∧ plK x < 3 := by
  have h1 := tm_bd x 3 (by decide)
  have h2 := tm_bd (x.tmod 3 + 3) 3 (by decide)
  have h3 := Int.tmod_nonneg 3 (show (0 : Int) ≤ x.tmod 3 + 3 by omega)
  unfold plK
  omega
def kL (k : Nat) : List UInt8 := (kindG k).data.toList
def spK (k : Nat) : List UInt8 := 32 :: kL k
theorem tk_kind (k : Nat) (hk : k < 3) (cur R : List UInt8) : tk cur (spK k ++ R) = fl cur ++ tk (kL k) R := by
  have hc : k = 0 ∨ k = 1 ∨ k = 2 := by omega
  rcases hc with rfl | rfl | rfl <;> rfl
theorem fl_kL (k : Nat) (hk : k < 3) : fl (kL k) = [kL k] := by
  have hc : k = 0 ∨ k = 1 ∨ k = 2 := by omega
  rcases hc with rfl | rfl | rfl <;> rfl
theorem tk_kinds : ∀ (ks : List Nat) (cur R : List UInt8), (∀ k ∈ ks, k < 3) → tk cur (ks.flatMap spK ++ 32 :: R) = fl cur ++ (ks.map kL ++ tk [] R)
  | [], cur, R, _ => rfl
  | k :: ks, cur, R, h => by
    rw [List.flatMap_cons, List.append_assoc, tk_kind k (h k (by simp)), tk_kinds ks _ R (fun j hj => h j (by simp [hj])), fl_kL k (h k (by simp))]
    rfl
theorem tk_kinds' : ∀ (ks : List Nat) (cur : List UInt8), (∀ k ∈ ks, k < 3) → tk cur (ks.flatMap spK) = fl cur ++ ks.map kL
  | [], cur, _ => (List.append_nil _).symm
  | k :: ks, cur, h => by
    rw [List.flatMap_cons, tk_kind k (h k (by simp)), tk_kinds' ks _ (fun j hj => h j (by simp [hj])), fl_kL k (h k (by simp))]
    rfl
def plKs (q : Sq Int) (n : Nat) : List Nat := (List.range n).map fun i => (plK (q.g i)).toNat
theorem plKs_lt (q : Sq Int) (n : Nat) : ∀ k ∈ plKs q n, k < 3 := fun k hk => by
  obtain ⟨i, _, rfl⟩ := List.mem_map.1 hk
  have := plK_bd (q.g i)
  omega
theorem plKs_succ (q : Sq Int) (n : Nat) : plKs q (n + 1) = plKs q n ++ [(plK (q.g n)).toNat] := by
  unfold plKs
  rw [List.range_succ, List.map_append]
  rfl
theorem app_data (a b : ByteArray) : (a ++ b).data.toList = a.data.toList ++ b.data.toList := by
  rw [ByteArray.data_append, Array.toList_append]
theorem plT_data (q : Sq Int) : ∀ n, (plT q n).data.toList = (plKs q n).flatMap spK
  | 0 => rfl
  | n + 1 => by
    rw [plT, app_data, plT_data q n, plKs_succ, List.flatMap_append, app_data, List.flatMap_cons, List.flatMap_nil, List.append_nil]
    rfl
theorem mk_kL (ks : List Nat) : (ks.map kL).map mk8 = ks.map kindG := by
  rw [List.map_map]
  rfl
theorem pl_words (q : Sq Int) (n : Nat) : pWords (plT q n) = (plKs q n).map kindG := by
  rw [pWords_eq, plT_data, tk_kinds' _ _ (plKs_lt q n)]
  exact mk_kL _
def wNis : ByteArray := ⟨#[110, 105, 115]⟩
theorem pl_words2 (q : Sq Int) (n : Nat) : pWords (plT q n ++ ⟨#[32, 110, 105, 115]⟩) = (plKs q n).map kindG ++ [wNis] := by
  rw [pWords_eq, app_data, plT_data, show ((⟨#[32, 110, 105, 115]⟩ : ByteArray).data.toList) = 32 :: [110, 105, 115] from rfl, tk_kinds _ _ _ (plKs_lt q n)]
  show ((plKs q n).map kL ++ [[110, 105, 115]]).map mk8 = _
  rw [List.map_append, mk_kL]
  rfl
def kS (k : Nat) : Sr := srcM ((k : Int) + 1)
def kB (k : Nat) : Nat × List ByteArray × Sr := (k, [], srcM ((k : Int) + 1))
theorem kB_flat (ks : List Nat) : (ks.map kB).flatMap (fun b => blockW b.1 b.2.1) = ks.map kindG := by
  induction ks with
  | nil => rfl
  | cons k ks ih => rw [List.map_cons, List.flatMap_cons, ih]; rfl
theorem prun_kinds (ks : List Nat) (h : ∀ k ∈ ks, k < 3) (hn : ks.length ≤ 4) (rest : List ByteArray) : pRun ⟨[], false⟩ (ks.map kindG ++ rest) = pRun ⟨ks.map kS, false⟩ rest := by
  have := prun_blocks (ks.map kB) [] (fun b hb => by
    obtain ⟨k, hk, rfl⟩ := List.mem_map.1 hb
    exact ⟨h k hk, rfl⟩) (by simpa using hn) rest
  rw [kB_flat] at this
  rw [this, List.nil_append, List.map_map]
  rfl
theorem pl_parse (q : Sq Int) (n : Nat) (hn : n ≤ 4) (h0 : n ≠ 0) : parse (plT q n) = ((plKs q n).map kS, 0) := by
  have hl : (plKs q n).length = n := by simp [plKs]
  have hw := pl_words q n
  rw [parse_words _ (by rw [hw]; intro e; rw [List.map_eq_nil_iff] at e; rw [e] at hl; exact h0 hl.symm), hw, ← List.append_nil ((plKs q n).map kindG), prun_kinds _ (plKs_lt q n) (by omega)]
  rfl
theorem pl_long (q : Sq Int) (n : Nat) (hn : 4 < n) : (parse (plT q n)).2 = 2 := by
  have hl : (plKs q n).length = n := by simp [plKs]
  have hw := pl_words q n
  rw [parse_words _ (by rw [hw]; intro e; rw [List.map_eq_nil_iff] at e; rw [e] at hl; simp at hl; omega), hw]
  have hlt := plKs_lt q n
  generalize plKs q n = ks at hl hlt
  have e : ks = ks.take 4 ++ ks.drop 4 := (List.take_append_drop 4 ks).symm
  have ht : (ks.take 4).length = 4 := by rw [List.length_take]; omega
  rw [e, List.map_append, prun_kinds _ (fun k hk => hlt k (List.mem_of_mem_take hk)) (by omega)]
  cases hd : ks.drop 4 with
  | nil =>
    have := congrArg List.length hd
    rw [List.length_drop] at this
    simp at this
    omega
  | cons k r =>
    have hk : k < 3 := hlt k (List.mem_of_mem_drop (i := 4) (by rw [hd]; simp))
    rw [List.map_cons, prun_src _ k hk, if_pos (by rw [List.length_map, ht])]
    rfl
theorem prun_nis (out : List Sr) : (pRun ⟨out, false⟩ [wNis]).1 = 6 := by
  have hst := pStep_src out false wNis (by rfl) (by rfl) rfl
  rw [if_neg (by decide)] at hst
  rw [pRun_cons, hst]
  rfl
theorem pl_nis (q : Sq Int) (n : Nat) (hn : n ≤ 4) : (parse (plT q n ++ ⟨#[32, 110, 105, 115]⟩)).2 = 6 := by
  have hl : (plKs q n).length = n := by simp [plKs]
  have hw := pl_words2 q n
  rw [parse_words _ (by rw [hw]; simp), hw, prun_kinds _ (plKs_lt q n) (by omega)]
  have h6 := prun_nis ((plKs q n).map kS)
  unfold pEnd
  rw [if_neg (by rw [h6]; decide)]
  exact h6
theorem sameF_true (f g : Nat → Sr) : ∀ (m a : Nat), (∀ i, a ≤ i → i < a + m → f i = g i) → sameF f g m a = true
  | 0, _, _ => rfl
  | m + 1, a, h => by
    rw [sameF, decide_eq_true (h a (Nat.le_refl _) (by omega)), Bool.true_and]
    exact sameF_true f g m (a + 1) (fun i h1 h2 => h i (by omega) (by omega))
theorem plT_size (q : Sq Int) : ∀ n, (plT q n).size ≤ 6 * n
  | 0 => Nat.le_refl 0
  | n + 1 => by
    have := plT_size q n
    have := kindG_size (plK (q.g n)).toNat
    rw [plT, ByteArray.size_append, ByteArray.size_append, sz1]
    omega
theorem kS_get (q : Sq Int) (n i : Nat) (hi : i < n) : ((plKs q n).map kS).getD i default = srcM (plK (q.g i) + 1) := by
  have hb := plK_bd (q.g i)
  have e : (((plK (q.g i)).toNat : Nat) : Int) = plK (q.g i) := by omega
  unfold plKs
  rw [List.getD_eq_getElem?_getD, List.getElem?_map, List.getElem?_map, List.getElem?_range hi, Option.map_some, Option.map_some, Option.getD_some]
  unfold kS
  rw [e]
theorem pl_v (q : Sq Int) : plV q := by
  unfold plV
  refine ⟨fun h => absurd h (by decide), fun _ => ⟨fun _ => rfl, fun h10 => ⟨⟨⟨0⟩, Nat.zero_le _, ?_⟩, fun x hx => ⟨fun h => ?_, fun h => ?_⟩⟩⟩⟩
  · exact ⟨rfl, rfl, rfl, rfl, rfl, rfl, rfl, rfl, ⟨⟨rfl, rfl, rfl⟩, rfl, fun j hj => absurd hj (by omega)⟩, trivial⟩
  · have hlt : x.i < q.n := by
      have : (x.i : Int) < q.n := of_decide_eq_true h
      omega
    have hn : q.n ≤ 10 := by
      have : ¬ (q.n : Int) > 10 := of_decide_eq_false h10
      omega
    have h1 := tm_bd (q.g x.i) 3 (by decide)
    have hb := plK_bd (q.g x.i)
    have hks := kindG_size (plK (q.g x.i)).toNat
    have hs := plT_size q x.i
    refine ⟨by omega, by omega, by decide, ⟨?_, ?_⟩, by decide, hb.1, hb.2, ?_, ?_, ⟨?_, ?_⟩, by omega, by omega, by show 1 < 5; omega, rfl, by omega, by omega, by unfold in64; omega, ⟨x.i + 1⟩, hlt, by show q.n - (x.i + 1) < q.n - x.i; omega, ?_⟩
    · show _ ≤ (q.g x.i).tmod 3 + 3
      omega
    · show (q.g x.i).tmod 3 + 3 ≤ _
      omega
    · show 1 + (kindG (plK (q.g x.i)).toNat).size ≤ _
      omega
    · rw [ByteArray.size_append, sz1]
      show _ + (1 + (kindG (plK (q.g x.i)).toNat).size) ≤ _
      omega
    · show _ ≤ plK (q.g x.i) + 1
      omega
    · show plK (q.g x.i) + 1 ≤ _
      omega
    · refine ⟨rfl, rfl, rfl, rfl, rfl, rfl, rfl, rfl, ⟨⟨rfl, rfl, rfl⟩, rfl, fun j hj => ?_⟩, trivial⟩
      rw [bltN]
      by_cases hj' : j < x.i
      · rw [decide_eq_true hj', cond_true]
      · have : j = x.i := by omega
        rw [decide_eq_false hj', cond_false, this]
        rfl
  · have hxn : x.i = q.n := by
      have : ¬ (x.i : Int) < q.n := of_decide_eq_false h
      have : x.i ≤ q.n := hx
      omega
    have hn : q.n ≤ 10 := by
      have : ¬ (q.n : Int) > 10 := of_decide_eq_false h10
      omega
    have hs := plT_size q q.n
    have hs2 : (plT q q.n ++ ⟨#[32, 110, 105, 115]⟩).size ≤ 100000 := by
      rw [ByteArray.size_append]
      show _ + 4 ≤ _
      omega
    rw [hxn]
    refine ⟨rfl, by omega, fun h4 => ?_, fun h4 => ⟨fun h0 => ?_, fun h0 => ?_⟩⟩
    · have : (q.n : Int) > 4 := of_decide_eq_true h4
      rw [pl_long q q.n (by omega)]
      rfl
    · have h0 : q.n = 0 := by
        have : (q.n : Int) = 0 := by simpa using h0
        omega
      have e : parse (plT q q.n) = (dflt, 0) := by rw [h0]; exact parse_none _ (by rw [pl_words]; rfl)
      have e6 := pl_nis q q.n (by omega)
      rw [e, e6]
      refine ⟨by omega, hs2, fun _ _ _ => rfl, fun _ _ _ => rfl, fun _ => by decide, fun _ => by decide, fun _ => by decide, fun _ => by decide, fun _ => by decide, fun _ => by decide, rfl⟩
    · have h4 : q.n ≤ 4 := by
        have : ¬ (q.n : Int) > 4 := of_decide_eq_false h4
        omega
      have h0 : q.n ≠ 0 := by
        intro e
        rw [e] at h0
        exact absurd h0 (by decide)
      have e := pl_parse q q.n h4 h0
      have e6 := pl_nis q q.n h4
      have hl : ((plKs q q.n).map kS).length = q.n := by simp [plKs]
      have hg : ∀ i, i < q.n → ((plKs q q.n).map kS).getD i default = srcM (plK (q.g i) + 1) := fun i hi => by
        have hb := plK_bd (q.g i)
        exact kS_get q q.n i hi
      rw [e, e6]
      generalize (plKs q q.n).map kS = l at hl hg
      refine ⟨by omega, hs2, fun _ _ _ => rfl, fun _ _ _ => rfl, fun _ => by show l.length ≤ _; omega, fun _ => by show q.n ≤ _; omega, fun _ => by decide, fun _ => by decide, fun _ => by decide, fun _ => by decide, ?_⟩
      have hS : sameF (fun i => l.getD i default) (fun i => srcM (plK (q.g i) + 1)) q.n 0 = true := sameF_true _ _ _ _ (fun i _ hi => hg i (by omega))
      show ((0 : Int) == 0 && (decide (l.length = q.n) && sameF (fun i => l.getD i default) (fun i => srcM (plK (q.g i) + 1)) l.length 0) && ((6 : Int) == 6 || ((q.n : Int) == 4)) && ((3 : Int) == 3) && (([srcM 1, srcM 2, srcM 3].getD 0 default).k == 1) && (([srcM 1, srcM 2, srcM 3].getD 2 default).k == 3)) = true
      rw [hl, hS, decide_eq_true rfl]
      rfl
theorem pl_ok : CTok Tryd.prog 4 (C1 dInts (fun _ => []) fun _ => XB true) := C1_ok cxg_ok Tryd.func4 rfl (by decide) dSl_ok (by kernel_rfl) (fun _ => rfl) fun q _ => exv (plV_eq q) (pl_v q)
end Go.Proofs.YtihplidgomjoeaaDoorAv
