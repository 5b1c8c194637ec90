/- The law ResolveStops: its run. -/
import Derived.Test.YtljgkjkdmoejfaaRsC
set_option linter.unusedVariables false
set_option linter.unusedSimpArgs false
set_option maxRecDepth 100000
namespace Go.Proofs.YtljgkjkdmoejfaaAv
open Go Go.RowKit
def stN (b : Int) : Int := bits .and .i64 b 3
structure SL where
  i : Nat
def s2 (b : Bool) (k : Int) : Sr := ⟨if b then 2 else 0, false, false, false, false, false⟩
def sInv0 (a b : Int) : Inv where
  σ := SL
  S := fun x => ⟨[(1, XI (stN b)), (5, XI (kind a)), (6, XI (act (kind a))), (7, .sl 0 6 0 4), (25, .sl 0 6 0 4), (26, XI 4), (27, XI x.i)], [(0, .vec 56 true 4 6 fun j => (s2 (Nat.blt j x.i) 0).cells)], 1, false⟩
  inv := fun x => x.i ≤ 4
  μ := fun x => 4 - x.i
def stO (b k : Int) : Ord := ⟨4, fun j => ⟨2, false, (k == 1) && ((j : Int) == b), (k == 2) && ((j : Int) == b), (k == 3) && ((j : Int) == b), (k == 4) && ((j : Int) == b)⟩⟩
/-- The fold behind so many outcomes of one kind. -/
def stF (o : Ord) (k : Int) : Nat → Fd
  | 0 => Fd.new o 1
  | i + 1 => (stF o k i).note ⟨0, 0, k⟩
def sInv2 (a b : Int) : Inv where
  σ := SL
  S := fun x => ⟨[(1, XI (stN b)), (5, XI (kind a)), (9, .ptr 1 0 0 0), (10, XI x.i), (43, XI x.i)], [(1, .one 59 true (stF (stO (stN b) (act (kind a))) (kind a) x.i).cells)], 2, false⟩
  inv := fun x => (x.i : Int) ≤ stN b + 1
  μ := fun x => 5 - x.i
def sCut (a b : Int) : Inv where
  σ := SL
  S := fun _ => ⟨[(1, XI (stN b)), (5, XI (kind a)), (7, .sl 0 6 0 4)], [(0, .vec 56 true 4 6 fun j => ((stO (stN b) (act (kind a))).g j).cells)], 1, false⟩
  inv := fun _ => True
  μ := fun _ => 0
def sCut8 (a b : Int) : Inv where
  σ := SL
  S := fun _ => ⟨[(1, XI (stN b)), (5, XI (kind a)), (6, XI (act (kind a)))], [], 0, false⟩
  inv := fun _ => True
  μ := fun _ => 0
def sE (a b : Int) : Env := { loops := [(0, sInv0 a b), (2, sInv2 a b)], cas := [(14, (6, [1, 2, 3, 4]))], cuts := [(8, sCut8 a b), (15, sCut a b)], frz := [(15, [7])] }
def stopsV (a b : Int) : Prop :=
  ((!true) = true → false = true) ∧ ((!true) = false → (((kind a == (5 : Int)) = true → ∃ (x : (sCut8 a b).σ), True ∧ true = true ∧ bits BinOp.and IntKind.i64 b (3 : Int) = stN b ∧ kind a = kind a ∧ (2 : Int) = act (kind a) ∧ True) ∧ ((kind a == (5 : Int)) = false → ∃ (x : (sCut8 a b).σ), True ∧ true = true ∧ bits BinOp.and IntKind.i64 b (3 : Int) = stN b ∧ kind a = kind a ∧ kind a = act (kind a) ∧ True)) ∧ ∀ (x : SL), True → (0 : Int) ≤ (4 : Int) ∧ (4 : Int) ≤ (4 : Int) ∧ (64 : Nat) ≤ (140737488355328 : Nat) ∧ (4 : Int) ≤ (140737488355328 : Int) ∧ (∃ (x : (sInv0 a b).σ), x.i.le (4 : Nat) ∧ true = true ∧ stN b = stN b ∧ kind a = kind a ∧ act (kind a) = act (kind a) ∧ XV.sl (0 : Nat) (6 : Nat) (0 : Nat) ((4 : Nat)) = XV.sl (0 : Nat) (6 : Nat) (0 : Nat) (4 : Nat) ∧ XV.sl (0 : Nat) (6 : Nat) (0 : Nat) ((4 : Nat)) = XV.sl (0 : Nat) (6 : Nat) (0 : Nat) (4 : Nat) ∧ (↑((4 : Nat)) : Int) = (4 : Int) ∧ (0 : Int) = (↑x.i : Int) ∧ (((56 : TypeId) = (56 : TypeId) ∧ true = true ∧ (6 : Nat) = (6 : Nat)) ∧ (4 : Nat) = (4 : Nat) ∧ ∀ (j : Nat), j < (4 : Nat) → [XI 0, XB false, XB false, XB false, XB false, XB false] = [XI ((s2 (j.blt x.i) (0 : Int)).k), XB ((s2 (j.blt x.i) (0 : Int)).r0), XB ((s2 (j.blt x.i) (0 : Int)).r1), XB ((s2 (j.blt x.i) (0 : Int)).r2), XB ((s2 (j.blt x.i) (0 : Int)).r3), XB ((s2 (j.blt x.i) (0 : Int)).r4)]) ∧ True) ∧ ∀ (x : SL), x.i.le (4 : Nat) → (decide ((↑x.i : Int) < (4 : Int)) = true → (0 : Int) ≤ (↑x.i : Int) ∧ (↑x.i : Int) < (↑(4 : Nat) : Int) ∧ (0 : Nat) + (↑x.i : Int).toNat < (4 : Nat) ∧ in64 ((↑x.i : Int) + (1 : Int)) ∧ ∃ (x' : (sInv0 a b).σ), x'.i.le (4 : Nat) ∧ (4 : Nat) - x'.i < (4 : Nat) - x.i ∧ true = true ∧ stN b = stN b ∧ kind a = kind a ∧ act (kind a) = act (kind a) ∧ XV.sl (0 : Nat) (6 : Nat) (0 : Nat) (4 : Nat) = XV.sl (0 : Nat) (6 : Nat) (0 : Nat) (4 : Nat) ∧ XV.sl (0 : Nat) (6 : Nat) (0 : Nat) (4 : Nat) = XV.sl (0 : Nat) (6 : Nat) (0 : Nat) (4 : Nat) ∧ (4 : Int) = (4 : Int) ∧ (↑x.i : Int) + (1 : Int) = (↑x'.i : Int) ∧ (((56 : TypeId) = (56 : TypeId) ∧ true = true ∧ (6 : Nat) = (6 : Nat)) ∧ (4 : Nat) = (4 : Nat) ∧ ∀ (j : Nat), j < (4 : Nat) → (bif j.beq ((0 : Nat) + (↑x.i : Int).toNat) then [XI 2, XB ((s2 (((0 : Nat) + (↑x.i : Int).toNat).blt x.i) (0 : Int)).r0), XB ((s2 (((0 : Nat) + (↑x.i : Int).toNat).blt x.i) (0 : Int)).r1), XB ((s2 (((0 : Nat) + (↑x.i : Int).toNat).blt x.i) (0 : Int)).r2), XB ((s2 (((0 : Nat) + (↑x.i : Int).toNat).blt x.i) (0 : Int)).r3), XB ((s2 (((0 : Nat) + (↑x.i : Int).toNat).blt x.i) (0 : Int)).r4)] else [XI ((s2 (j.blt x.i) (0 : Int)).k), XB ((s2 (j.blt x.i) (0 : Int)).r0), XB ((s2 (j.blt x.i) (0 : Int)).r1), XB ((s2 (j.blt x.i) (0 : Int)).r2), XB ((s2 (j.blt x.i) (0 : Int)).r3), XB ((s2 (j.blt x.i) (0 : Int)).r4)]) = [XI ((s2 (j.blt x'.i) (0 : Int)).k), XB ((s2 (j.blt x'.i) (0 : Int)).r0), XB ((s2 (j.blt x'.i) (0 : Int)).r1), XB ((s2 (j.blt x'.i) (0 : Int)).r2), XB ((s2 (j.blt x'.i) (0 : Int)).r3), XB ((s2 (j.blt x'.i) (0 : Int)).r4)]) ∧ True) ∧ (decide ((↑x.i : Int) < (4 : Int)) = false → ((act (kind a) = (1 : Int) ∨ act (kind a) = (2 : Int) ∨ act (kind a) = (3 : Int) ∨ act (kind a) = (4 : Int) ∨ False) ∧ (act (kind a) = (1 : Int) → (0 : Int) ≤ stN b ∧ stN b < (↑(4 : Nat) : Int) ∧ (0 : Int) ≤ (1 : Int) ∧ (1 : Int) < (↑(5 : Nat) : Int) ∧ (0 : Nat) + (stN b).toNat < (4 : Nat) ∧ ∃ (x_1 : (sCut a b).σ), True ∧ true = true ∧ stN b = stN b ∧ kind a = kind a ∧ XV.sl (0 : Nat) (6 : Nat) (0 : Nat) (4 : Nat) = XV.sl (0 : Nat) (6 : Nat) (0 : Nat) (4 : Nat) ∧ (((56 : TypeId) = (56 : TypeId) ∧ true = true ∧ (6 : Nat) = (6 : Nat)) ∧ (4 : Nat) = (4 : Nat) ∧ ∀ (j : Nat), j < (4 : Nat) → (bif j.beq ((0 : Nat) + (stN b).toNat) then [XI ((s2 (((0 : Nat) + (stN b).toNat).blt x.i) (0 : Int)).k), XB ((s2 (((0 : Nat) + (stN b).toNat).blt x.i) (0 : Int)).r0), XB true, XB ((s2 (((0 : Nat) + (stN b).toNat).blt x.i) (0 : Int)).r2), XB ((s2 (((0 : Nat) + (stN b).toNat).blt x.i) (0 : Int)).r3), XB ((s2 (((0 : Nat) + (stN b).toNat).blt x.i) (0 : Int)).r4)] else [XI ((s2 (j.blt x.i) (0 : Int)).k), XB ((s2 (j.blt x.i) (0 : Int)).r0), XB ((s2 (j.blt x.i) (0 : Int)).r1), XB ((s2 (j.blt x.i) (0 : Int)).r2), XB ((s2 (j.blt x.i) (0 : Int)).r3), XB ((s2 (j.blt x.i) (0 : Int)).r4)]) = [XI (((stO (stN b) (act (kind a))).g j).k), XB (((stO (stN b) (act (kind a))).g j).r0), XB (((stO (stN b) (act (kind a))).g j).r1), XB (((stO (stN b) (act (kind a))).g j).r2), XB (((stO (stN b) (act (kind a))).g j).r3), XB (((stO (stN b) (act (kind a))).g j).r4)]) ∧ True) ∧ (act (kind a) = (2 : Int) → (0 : Int) ≤ stN b ∧ stN b < (↑(4 : Nat) : Int) ∧ (0 : Int) ≤ (2 : Int) ∧ (2 : Int) < (↑(5 : Nat) : Int) ∧ (0 : Nat) + (stN b).toNat < (4 : Nat) ∧ ∃ (x_1 : (sCut a b).σ), True ∧ true = true ∧ stN b = stN b ∧ kind a = kind a ∧ XV.sl (0 : Nat) (6 : Nat) (0 : Nat) (4 : Nat) = XV.sl (0 : Nat) (6 : Nat) (0 : Nat) (4 : Nat) ∧ (((56 : TypeId) = (56 : TypeId) ∧ true = true ∧ (6 : Nat) = (6 : Nat)) ∧ (4 : Nat) = (4 : Nat) ∧ ∀ (j : Nat), j < (4 : Nat) → (bif j.beq ((0 : Nat) + (stN b).toNat) then [XI ((s2 (((0 : Nat) + (stN b).toNat).blt x.i) (0 : Int)).k), XB ((s2 (((0 : Nat) + (stN b).toNat).blt x.i) (0 : Int)).r0), XB ((s2 (((0 : Nat) + (stN b).toNat).blt x.i) (0 : Int)).r1), XB true, XB ((s2 (((0 : Nat) + (stN b).toNat).blt x.i) (0 : Int)).r3), XB ((s2 (((0 : Nat) + (stN b).toNat).blt x.i) (0 : Int)).r4)] else [XI ((s2 (j.blt x.i) (0 : Int)).k), XB ((s2 (j.blt x.i) (0 : Int)).r0), XB ((s2 (j.blt x.i) (0 : Int)).r1), XB ((s2 (j.blt x.i) (0 : Int)).r2), XB ((s2 (j.blt x.i) (0 : Int)).r3), XB ((s2 (j.blt x.i) (0 : Int)).r4)]) = [XI (((stO (stN b) (act (kind a))).g j).k), XB (((stO (stN b) (act (kind a))).g j).r0), XB (((stO (stN b) (act (kind a))).g j).r1), XB (((stO (stN b) (act (kind a))).g j).r2), XB (((stO (stN b) (act (kind a))).g j).r3), XB (((stO (stN b) (act (kind a))).g j).r4)]) ∧ True) ∧ (act (kind a) = (3 : Int) → (0 : Int) ≤ stN b ∧ stN b < (↑(4 : Nat) : Int) ∧ (0 : Int) ≤ (3 : Int) ∧ (3 : Int) < (↑(5 : Nat) : Int) ∧ (0 : Nat) + (stN b).toNat < (4 : Nat) ∧ ∃ (x_1 : (sCut a b).σ), True ∧ true = true ∧ stN b = stN b ∧ kind a = kind a ∧ XV.sl (0 : Nat) (6 : Nat) (0 : Nat) (4 : Nat) = XV.sl (0 : Nat) (6 : Nat) (0 : Nat) (4 : Nat) ∧ (((56 : TypeId) = (56 : TypeId) ∧ true = true ∧ (6 : Nat) = (6 : Nat)) ∧ (4 : Nat) = (4 : Nat) ∧ ∀ (j : Nat), j < (4 : Nat) → (bif j.beq ((0 : Nat) + (stN b).toNat) then [XI ((s2 (((0 : Nat) + (stN b).toNat).blt x.i) (0 : Int)).k), XB ((s2 (((0 : Nat) + (stN b).toNat).blt x.i) (0 : Int)).r0), XB ((s2 (((0 : Nat) + (stN b).toNat).blt x.i) (0 : Int)).r1), XB ((s2 (((0 : Nat) + (stN b).toNat).blt x.i) (0 : Int)).r2), XB true, XB ((s2 (((0 : Nat) + (stN b).toNat).blt x.i) (0 : Int)).r4)] else [XI ((s2 (j.blt x.i) (0 : Int)).k), XB ((s2 (j.blt x.i) (0 : Int)).r0), XB ((s2 (j.blt x.i) (0 : Int)).r1), XB ((s2 (j.blt x.i) (0 : Int)).r2), XB ((s2 (j.blt x.i) (0 : Int)).r3), XB ((s2 (j.blt x.i) (0 : Int)).r4)]) = [XI (((stO (stN b) (act (kind a))).g j).k), XB (((stO (stN b) (act (kind a))).g j).r0), XB (((stO (stN b) (act (kind a))).g j).r1), XB (((stO (stN b) (act (kind a))).g j).r2), XB (((stO (stN b) (act (kind a))).g j).r3), XB (((stO (stN b) (act (kind a))).g j).r4)]) ∧ True) ∧ (act (kind a) = (4 : Int) → (0 : Int) ≤ stN b ∧ stN b < (↑(4 : Nat) : Int) ∧ (0 : Int) ≤ (4 : Int) ∧ (4 : Int) < (↑(5 : Nat) : Int) ∧ (0 : Nat) + (stN b).toNat < (4 : Nat) ∧ ∃ (x_1 : (sCut a b).σ), True ∧ true = true ∧ stN b = stN b ∧ kind a = kind a ∧ XV.sl (0 : Nat) (6 : Nat) (0 : Nat) (4 : Nat) = XV.sl (0 : Nat) (6 : Nat) (0 : Nat) (4 : Nat) ∧ (((56 : TypeId) = (56 : TypeId) ∧ true = true ∧ (6 : Nat) = (6 : Nat)) ∧ (4 : Nat) = (4 : Nat) ∧ ∀ (j : Nat), j < (4 : Nat) → (bif j.beq ((0 : Nat) + (stN b).toNat) then [XI ((s2 (((0 : Nat) + (stN b).toNat).blt x.i) (0 : Int)).k), XB ((s2 (((0 : Nat) + (stN b).toNat).blt x.i) (0 : Int)).r0), XB ((s2 (((0 : Nat) + (stN b).toNat).blt x.i) (0 : Int)).r1), XB ((s2 (((0 : Nat) + (stN b).toNat).blt x.i) (0 : Int)).r2), XB ((s2 (((0 : Nat) + (stN b).toNat).blt x.i) (0 : Int)).r3), XB true] else [XI ((s2 (j.blt x.i) (0 : Int)).k), XB ((s2 (j.blt x.i) (0 : Int)).r0), XB ((s2 (j.blt x.i) (0 : Int)).r1), XB ((s2 (j.blt x.i) (0 : Int)).r2), XB ((s2 (j.blt x.i) (0 : Int)).r3), XB ((s2 (j.blt x.i) (0 : Int)).r4)]) = [XI (((stO (stN b) (act (kind a))).g j).k), XB (((stO (stN b) (act (kind a))).g j).r0), XB (((stO (stN b) (act (kind a))).g j).r1), XB (((stO (stN b) (act (kind a))).g j).r2), XB (((stO (stN b) (act (kind a))).g j).r3), XB (((stO (stN b) (act (kind a))).g j).r4)]) ∧ True) ∧ True) ∧ ∀ (x : SL), True → (4 : Nat) = (4 : Nat) ∧ (∀ (i : Nat), i < (4 : Nat) → [XI (((stO (stN b) (act (kind a))).g i).k), XB (((stO (stN b) (act (kind a))).g i).r0), XB (((stO (stN b) (act (kind a))).g i).r1), XB (((stO (stN b) (act (kind a))).g i).r2), XB (((stO (stN b) (act (kind a))).g i).r3), XB (((stO (stN b) (act (kind a))).g i).r4)] = [XI (((stO (stN b) (act (kind a))).g i).k), XB (((stO (stN b) (act (kind a))).g i).r0), XB (((stO (stN b) (act (kind a))).g i).r1), XB (((stO (stN b) (act (kind a))).g i).r2), XB (((stO (stN b) (act (kind a))).g i).r3), XB (((stO (stN b) (act (kind a))).g i).r4)]) ∧ (4 : Nat) ≤ (1000 : Nat) ∧ (∃ (x : (sInv2 a b).σ), (stN b + (1 : Int) - (↑x.i : Int)).NonNeg ∧ true = true ∧ stN b = stN b ∧ kind a = kind a ∧ XV.ptr (1 : Nat) (0 : Nat) (0 : Nat) (0 : Nat) = XV.ptr (1 : Nat) (0 : Nat) (0 : Nat) (0 : Nat) ∧ (0 : Int) = (↑x.i : Int) ∧ (0 : Int) = (↑x.i : Int) ∧ (((59 : TypeId) = (59 : TypeId) ∧ true = true) ∧ ((XV.fz (Fd.new { n := (4 : Nat), g := (stO (stN b) (act (kind a))).g : Sq Sr } (1 : Int)).o.n (6 : Nat) fun (i : Nat) => [XI (((Fd.new { n := (4 : Nat), g := (stO (stN b) (act (kind a))).g : Sq Sr } (1 : Int)).o.g i).k), XB (((Fd.new { n := (4 : Nat), g := (stO (stN b) (act (kind a))).g : Sq Sr } (1 : Int)).o.g i).r0), XB (((Fd.new { n := (4 : Nat), g := (stO (stN b) (act (kind a))).g : Sq Sr } (1 : Int)).o.g i).r1), XB (((Fd.new { n := (4 : Nat), g := (stO (stN b) (act (kind a))).g : Sq Sr } (1 : Int)).o.g i).r2), XB (((Fd.new { n := (4 : Nat), g := (stO (stN b) (act (kind a))).g : Sq Sr } (1 : Int)).o.g i).r3), XB (((Fd.new { n := (4 : Nat), g := (stO (stN b) (act (kind a))).g : Sq Sr } (1 : Int)).o.g i).r4)]) = XV.fz (stF (stO (stN b) (act (kind a))) (kind a) x.i).o.n (6 : Nat) fun (i : Nat) => [XI (((stF (stO (stN b) (act (kind a))) (kind a) x.i).o.g i).k), XB (((stF (stO (stN b) (act (kind a))) (kind a) x.i).o.g i).r0), XB (((stF (stO (stN b) (act (kind a))) (kind a) x.i).o.g i).r1), XB (((stF (stO (stN b) (act (kind a))) (kind a) x.i).o.g i).r2), XB (((stF (stO (stN b) (act (kind a))) (kind a) x.i).o.g i).r3), XB (((stF (stO (stN b) (act (kind a))) (kind a) x.i).o.g i).r4)]) ∧ (Fd.new { n := (4 : Nat), g := (stO (stN b) (act (kind a))).g : Sq Sr } (1 : Int)).n = (stF (stO (stN b) (act (kind a))) (kind a) x.i).n ∧ (Fd.new { n := (4 : Nat), g := (stO (stN b) (act (kind a))).g : Sq Sr } (1 : Int)).s = (stF (stO (stN b) (act (kind a))) (kind a) x.i).s ∧ (Fd.new { n := (4 : Nat), g := (stO (stN b) (act (kind a))).g : Sq Sr } (1 : Int)).c = (stF (stO (stN b) (act (kind a))) (kind a) x.i).c ∧ (Fd.new { n := (4 : Nat), g := (stO (stN b) (act (kind a))).g : Sq Sr } (1 : Int)).acc.s = (stF (stO (stN b) (act (kind a))) (kind a) x.i).acc.s ∧ (Fd.new { n := (4 : Nat), g := (stO (stN b) (act (kind a))).g : Sq Sr } (1 : Int)).acc.c = (stF (stO (stN b) (act (kind a))) (kind a) x.i).acc.c ∧ (Fd.new { n := (4 : Nat), g := (stO (stN b) (act (kind a))).g : Sq Sr } (1 : Int)).acc.k = (stF (stO (stN b) (act (kind a))) (kind a) x.i).acc.k ∧ Xnil = Xnil ∧ (Fd.new { n := (4 : Nat), g := (stO (stN b) (act (kind a))).g : Sq Sr } (1 : Int)).last.s = (stF (stO (stN b) (act (kind a))) (kind a) x.i).last.s ∧ (Fd.new { n := (4 : Nat), g := (stO (stN b) (act (kind a))).g : Sq Sr } (1 : Int)).last.c = (stF (stO (stN b) (act (kind a))) (kind a) x.i).last.c ∧ (Fd.new { n := (4 : Nat), g := (stO (stN b) (act (kind a))).g : Sq Sr } (1 : Int)).last.k = (stF (stO (stN b) (act (kind a))) (kind a) x.i).last.k ∧ Xnil = Xnil ∧ (Fd.new { n := (4 : Nat), g := (stO (stN b) (act (kind a))).g : Sq Sr } (1 : Int)).ov = (stF (stO (stN b) (act (kind a))) (kind a) x.i).ov ∧ True) ∧ True) ∧ ∀ (x : SL), (stN b + (1 : Int) - (↑x.i : Int)).NonNeg → (decide ((↑x.i : Int) < (9 : Int)) = true → (∀ (i : Nat), i < (stF (stO (stN b) (act (kind a))) (kind a) x.i).o.n → [XI (((stF (stO (stN b) (act (kind a))) (kind a) x.i).o.g i).k), XB (((stF (stO (stN b) (act (kind a))) (kind a) x.i).o.g i).r0), XB (((stF (stO (stN b) (act (kind a))) (kind a) x.i).o.g i).r1), XB (((stF (stO (stN b) (act (kind a))) (kind a) x.i).o.g i).r2), XB (((stF (stO (stN b) (act (kind a))) (kind a) x.i).o.g i).r3), XB (((stF (stO (stN b) (act (kind a))) (kind a) x.i).o.g i).r4)] = [XI (((stF (stO (stN b) (act (kind a))) (kind a) x.i).o.g i).k), XB (((stF (stO (stN b) (act (kind a))) (kind a) x.i).o.g i).r0), XB (((stF (stO (stN b) (act (kind a))) (kind a) x.i).o.g i).r1), XB (((stF (stO (stN b) (act (kind a))) (kind a) x.i).o.g i).r2), XB (((stF (stO (stN b) (act (kind a))) (kind a) x.i).o.g i).r3), XB (((stF (stO (stN b) (act (kind a))) (kind a) x.i).o.g i).r4)]) ∧ ((!!(stF (stO (stN b) (act (kind a))) (kind a) x.i).ov) = true → (∀ (i : Nat), i < (stF (stO (stN b) (act (kind a))) (kind a) x.i).o.n → [XI (((stF (stO (stN b) (act (kind a))) (kind a) x.i).o.g i).k), XB (((stF (stO (stN b) (act (kind a))) (kind a) x.i).o.g i).r0), XB (((stF (stO (stN b) (act (kind a))) (kind a) x.i).o.g i).r1), XB (((stF (stO (stN b) (act (kind a))) (kind a) x.i).o.g i).r2), XB (((stF (stO (stN b) (act (kind a))) (kind a) x.i).o.g i).r3), XB (((stF (stO (stN b) (act (kind a))) (kind a) x.i).o.g i).r4)] = [XI (((stF (stO (stN b) (act (kind a))) (kind a) x.i).o.g i).k), XB (((stF (stO (stN b) (act (kind a))) (kind a) x.i).o.g i).r0), XB (((stF (stO (stN b) (act (kind a))) (kind a) x.i).o.g i).r1), XB (((stF (stO (stN b) (act (kind a))) (kind a) x.i).o.g i).r2), XB (((stF (stO (stN b) (act (kind a))) (kind a) x.i).o.g i).r3), XB (((stF (stO (stN b) (act (kind a))) (kind a) x.i).o.g i).r4)]) ∧ in64 (stN b + (1 : Int)) ∧ ((↑x.i : Int) == stN b + (1 : Int) && (stF (stO (stN b) (act (kind a))) (kind a) x.i).last.k == kind a && (stF (stO (stN b) (act (kind a))) (kind a) x.i).last.s == stN b) = true) ∧ ((!!(stF (stO (stN b) (act (kind a))) (kind a) x.i).ov) = false → (∀ (i : Nat), i < (stF (stO (stN b) (act (kind a))) (kind a) x.i).o.n → [XI (((stF (stO (stN b) (act (kind a))) (kind a) x.i).o.g i).k), XB (((stF (stO (stN b) (act (kind a))) (kind a) x.i).o.g i).r0), XB (((stF (stO (stN b) (act (kind a))) (kind a) x.i).o.g i).r1), XB (((stF (stO (stN b) (act (kind a))) (kind a) x.i).o.g i).r2), XB (((stF (stO (stN b) (act (kind a))) (kind a) x.i).o.g i).r3), XB (((stF (stO (stN b) (act (kind a))) (kind a) x.i).o.g i).r4)] = [XI (((stF (stO (stN b) (act (kind a))) (kind a) x.i).o.g i).k), XB (((stF (stO (stN b) (act (kind a))) (kind a) x.i).o.g i).r0), XB (((stF (stO (stN b) (act (kind a))) (kind a) x.i).o.g i).r1), XB (((stF (stO (stN b) (act (kind a))) (kind a) x.i).o.g i).r2), XB (((stF (stO (stN b) (act (kind a))) (kind a) x.i).o.g i).r3), XB (((stF (stO (stN b) (act (kind a))) (kind a) x.i).o.g i).r4)]) ∧ (stF (stO (stN b) (act (kind a))) (kind a) x.i).can { s := (0 : Int), c := (0 : Int), k := kind a : Rp } ∧ in64 ((↑x.i : Int) + (1 : Int)) ∧ in64 ((↑x.i : Int) + (1 : Int)) ∧ ∃ (x' : (sInv2 a b).σ), (stN b + (1 : Int) - (↑x'.i : Int)).NonNeg ∧ (5 : Nat) - x'.i < (5 : Nat) - x.i ∧ true = true ∧ stN b = stN b ∧ kind a = kind a ∧ XV.ptr (1 : Nat) (0 : Nat) (0 : Nat) (0 : Nat) = XV.ptr (1 : Nat) (0 : Nat) (0 : Nat) (0 : Nat) ∧ (↑x.i : Int) + (1 : Int) = (↑x'.i : Int) ∧ (↑x.i : Int) + (1 : Int) = (↑x'.i : Int) ∧ (((59 : TypeId) = (59 : TypeId) ∧ true = true) ∧ ((XV.fz ((stF (stO (stN b) (act (kind a))) (kind a) x.i).note { s := (0 : Int), c := (0 : Int), k := kind a : Rp }).o.n (6 : Nat) fun (i : Nat) => [XI ((((stF (stO (stN b) (act (kind a))) (kind a) x.i).note { s := (0 : Int), c := (0 : Int), k := kind a : Rp }).o.g i).k), XB ((((stF (stO (stN b) (act (kind a))) (kind a) x.i).note { s := (0 : Int), c := (0 : Int), k := kind a : Rp }).o.g i).r0), XB ((((stF (stO (stN b) (act (kind a))) (kind a) x.i).note { s := (0 : Int), c := (0 : Int), k := kind a : Rp }).o.g i).r1), XB ((((stF (stO (stN b) (act (kind a))) (kind a) x.i).note { s := (0 : Int), c := (0 : Int), k := kind a : Rp }).o.g i).r2), XB ((((stF (stO (stN b) (act (kind a))) (kind a) x.i).note { s := (0 : Int), c := (0 : Int), k := kind a : Rp }).o.g i).r3), XB ((((stF (stO (stN b) (act (kind a))) (kind a) x.i).note { s := (0 : Int), c := (0 : Int), k := kind a : Rp }).o.g i).r4)]) = XV.fz (stF (stO (stN b) (act (kind a))) (kind a) x'.i).o.n (6 : Nat) fun (i : Nat) => [XI (((stF (stO (stN b) (act (kind a))) (kind a) x'.i).o.g i).k), XB (((stF (stO (stN b) (act (kind a))) (kind a) x'.i).o.g i).r0), XB (((stF (stO (stN b) (act (kind a))) (kind a) x'.i).o.g i).r1), XB (((stF (stO (stN b) (act (kind a))) (kind a) x'.i).o.g i).r2), XB (((stF (stO (stN b) (act (kind a))) (kind a) x'.i).o.g i).r3), XB (((stF (stO (stN b) (act (kind a))) (kind a) x'.i).o.g i).r4)]) ∧ ((stF (stO (stN b) (act (kind a))) (kind a) x.i).note { s := (0 : Int), c := (0 : Int), k := kind a : Rp }).n = (stF (stO (stN b) (act (kind a))) (kind a) x'.i).n ∧ ((stF (stO (stN b) (act (kind a))) (kind a) x.i).note { s := (0 : Int), c := (0 : Int), k := kind a : Rp }).s = (stF (stO (stN b) (act (kind a))) (kind a) x'.i).s ∧ ((stF (stO (stN b) (act (kind a))) (kind a) x.i).note { s := (0 : Int), c := (0 : Int), k := kind a : Rp }).c = (stF (stO (stN b) (act (kind a))) (kind a) x'.i).c ∧ ((stF (stO (stN b) (act (kind a))) (kind a) x.i).note { s := (0 : Int), c := (0 : Int), k := kind a : Rp }).acc.s = (stF (stO (stN b) (act (kind a))) (kind a) x'.i).acc.s ∧ ((stF (stO (stN b) (act (kind a))) (kind a) x.i).note { s := (0 : Int), c := (0 : Int), k := kind a : Rp }).acc.c = (stF (stO (stN b) (act (kind a))) (kind a) x'.i).acc.c ∧ ((stF (stO (stN b) (act (kind a))) (kind a) x.i).note { s := (0 : Int), c := (0 : Int), k := kind a : Rp }).acc.k = (stF (stO (stN b) (act (kind a))) (kind a) x'.i).acc.k ∧ Xnil = Xnil ∧ ((stF (stO (stN b) (act (kind a))) (kind a) x.i).note { s := (0 : Int), c := (0 : Int), k := kind a : Rp }).last.s = (stF (stO (stN b) (act (kind a))) (kind a) x'.i).last.s ∧ ((stF (stO (stN b) (act (kind a))) (kind a) x.i).note { s := (0 : Int), c := (0 : Int), k := kind a : Rp }).last.c = (stF (stO (stN b) (act (kind a))) (kind a) x'.i).last.c ∧ ((stF (stO (stN b) (act (kind a))) (kind a) x.i).note { s := (0 : Int), c := (0 : Int), k := kind a : Rp }).last.k = (stF (stO (stN b) (act (kind a))) (kind a) x'.i).last.k ∧ Xnil = Xnil ∧ ((stF (stO (stN b) (act (kind a))) (kind a) x.i).note { s := (0 : Int), c := (0 : Int), k := kind a : Rp }).ov = (stF (stO (stN b) (act (kind a))) (kind a) x'.i).ov ∧ True) ∧ True)) ∧ (decide ((↑x.i : Int) < (9 : Int)) = false → (∀ (i : Nat), i < (stF (stO (stN b) (act (kind a))) (kind a) x.i).o.n → [XI (((stF (stO (stN b) (act (kind a))) (kind a) x.i).o.g i).k), XB (((stF (stO (stN b) (act (kind a))) (kind a) x.i).o.g i).r0), XB (((stF (stO (stN b) (act (kind a))) (kind a) x.i).o.g i).r1), XB (((stF (stO (stN b) (act (kind a))) (kind a) x.i).o.g i).r2), XB (((stF (stO (stN b) (act (kind a))) (kind a) x.i).o.g i).r3), XB (((stF (stO (stN b) (act (kind a))) (kind a) x.i).o.g i).r4)] = [XI (((stF (stO (stN b) (act (kind a))) (kind a) x.i).o.g i).k), XB (((stF (stO (stN b) (act (kind a))) (kind a) x.i).o.g i).r0), XB (((stF (stO (stN b) (act (kind a))) (kind a) x.i).o.g i).r1), XB (((stF (stO (stN b) (act (kind a))) (kind a) x.i).o.g i).r2), XB (((stF (stO (stN b) (act (kind a))) (kind a) x.i).o.g i).r3), XB (((stF (stO (stN b) (act (kind a))) (kind a) x.i).o.g i).r4)]) ∧ in64 (stN b + (1 : Int)) ∧ ((↑x.i : Int) == stN b + (1 : Int) && (stF (stO (stN b) (act (kind a))) (kind a) x.i).last.k == kind a && (stF (stO (stN b) (act (kind a))) (kind a) x.i).last.s == stN b) = true)))
theorem stopsV_eq (a b : Int) : stopsV a b = (funC cx5 Try.f11 (mkSc (sE a b) (bodyOf Try.f11)) [XI a, XI b] (XB true)) := by kernel_rfl
theorem stO_no (m k : Int) (i : Nat) (h : (i : Int) ≠ m) (r : Nat) : ((stO m k).g i).ret r = false := by
  have e : ((i : Int) == m) = false := by simpa using h
  simp only [stO, Sr.ret, e, Bool.and_false]
  match r with
  | 0 => rfl
  | 1 => rfl
  | 2 => rfl
  | 3 => rfl
  | 4 => rfl
  | n + 5 => simp
theorem stO_yes (m k : Int) (i : Nat) (h : (i : Int) = m) (h1 : k = 1 ∨ k = 2 ∨ k = 3 ∨ k = 4) : ((stO m k).g i).ret k.toNat = true := by
  have e : ((i : Int) == m) = true := by simpa using h
  simp only [stO, Sr.ret, e, Bool.and_true]
  rcases h1 with rfl | rfl | rfl | rfl <;> rfl
def stS (m k : Int) (i : Nat) : Fd := ⟨stO m (act k), 1, i, 0, if i = 0 then ⟨0, 0, 0⟩ else ⟨i - 1, 0, k⟩, if i = 0 then ⟨0, 0, 3⟩ else ⟨i - 1, 0, k⟩, false⟩
theorem stS_note (m k : Int) (i : Nat) : (stS m k i).note ⟨0, 0, k⟩ = ⟨stO m (act k), 1, i + 1, 0, ⟨i, 0, k⟩, ⟨i, 0, k⟩, ((stO m (act k)).g i).ret (act k).toNat || ((i : Int) + 1 == 4)⟩ := by
  have ht : (stS m k i).take ⟨0, 0, k⟩ = ⟨i, 0, k⟩ := by simp [Fd.take, stS]
  unfold Fd.note
  rw [ht]
  simp [stS, stO]
theorem stF_le (m k : Int) (hm : m ≤ 3) : ∀ i : Nat, (i : Int) ≤ m → stF (stO m (act k)) k i = stS m k i
  | 0, _ => by simp [stF, stS, Fd.new, stO]
  | i + 1, h => by
    rw [stF, stF_le m k hm i (by omega), stS_note, stO_no _ _ _ (by omega)]
    have e : ((i : Int) + 1 == 4) = false := by simp; omega
    rw [e]
    simp [stS]
theorem stF_end (m k : Int) (hm : m ≤ 3) (i : Nat) (h : (i : Int) = m) (h1 : act k = 1 ∨ act k = 2 ∨ act k = 3 ∨ act k = 4) : stF (stO m (act k)) k (i + 1) = ⟨stO m (act k), 1, i + 1, 0, ⟨i, 0, k⟩, ⟨i, 0, k⟩, true⟩ := by
  rw [stF, stF_le m k hm i (by omega), stS_note, stO_yes _ _ _ h h1]
  simp
theorem stF_ok (m k : Int) (hk : 1 ≤ k ∧ k ≤ 5) : ∀ i : Nat, (stF (stO m (act k)) k i).ok
  | 0 => Fd.new_ok (by simp [stO]) (by omega)
  | i + 1 => (stF_ok m k hk i).note hk
theorem stops_v (a b : Int) : stopsV a b := by
  have hk := kind_valid a
  have hm : 0 ≤ stN b ∧ stN b ≤ 3 := and_mask b 3 (by omega) (by omega)
  have ha : act (kind a) = 1 ∨ act (kind a) = 2 ∨ act (kind a) = 3 ∨ act (kind a) = 4 := by
    unfold act
    by_cases h : kind a = 5
    · simp [h]
    · simp [h]; omega
  have hbit : bits .and .i64 b 3 = stN b := rfl
  have hF := stF_le (stN b) (kind a) hm.2
  have hE := fun i h => stF_end (stN b) (kind a) hm.2 i h ha
  have hok := stF_ok (stN b) (kind a) hk
  have hmn : ((stN b).toNat : Int) = stN b := Int.toNat_of_nonneg hm.1
  have key : ∀ (i : Nat) (r : Nat) (row : List XV), ¬ (i : Int) < 4 → i ≤ 4 → True := fun _ _ _ _ _ => trivial
  unfold stopsV
  refine ⟨fun h => absurd h (by decide), fun _ => ⟨⟨fun h => ⟨⟨0⟩, trivial, rfl, hbit, rfl, ?_, trivial⟩, fun h => ⟨⟨0⟩, trivial, rfl, hbit, rfl, ?_, trivial⟩⟩, fun _ _ => ⟨by omega, by omega, by omega, by omega, ⟨⟨0⟩, Nat.zero_le _, ?_⟩, fun x h1 => ⟨fun h => ?_, fun h => ⟨?_, fun _ _ => ?_⟩⟩⟩⟩⟩
  · have : kind a = 5 := by simpa using h
    simp [act, this]
  · have : ¬ kind a = 5 := by simpa using h
    simp [act, this]
  · and_intros
    all_goals first | rfl | trivial | skip
    intro j hj
    have e : j.blt 0 = false := by rw [bltN]; simp
    rw [e]; rfl
  · have hx : x.i < 4 := by have : (x.i : Int) < 4 := by simpa using h
                            omega
    refine ⟨by omega, by omega, by omega, ⟨by omega, by omega⟩, ⟨x.i + 1⟩, hx, by show 4 - (x.i + 1) < 4 - x.i; omega, ?_⟩
    and_intros
    all_goals first | rfl | trivial | skip
    intro j hj
    simp only [Nat.zero_add, Int.toNat_natCast]
    rcases Nat.lt_trichotomy j x.i with hl | hl | hl
    · have e1 : j.beq x.i = false := by rw [beqN]; simp; omega
      have e2 : j.blt x.i = true := by rw [bltN]; simp [hl]
      have e3 : j.blt (x.i + 1) = true := by rw [bltN]; simp; omega
      rw [e1, e2, e3]; rfl
    · subst hl
      have e1 : x.i.beq x.i = true := by rw [beqN]; simp
      have e2 : x.i.blt x.i = false := by rw [bltN]; simp
      have e3 : x.i.blt (x.i + 1) = true := by rw [bltN]; simp
      rw [e1, e2, e3]; rfl
    · have e1 : j.beq x.i = false := by rw [beqN]; simp; omega
      have e2 : j.blt x.i = false := by rw [bltN]; simp; omega
      have e3 : j.blt (x.i + 1) = false := by rw [bltN]; simp; omega
      rw [e1, e2, e3]; rfl
  · have hx : x.i = 4 := by have : ¬ (x.i : Int) < 4 := by simpa using h
                            have : x.i ≤ 4 := h1
                            omega
    have cell : ∀ (j : Nat), j < 4 → j.blt x.i = true := fun j hj => by rw [bltN, hx]; simp [hj]
    refine ⟨by rcases ha with h | h | h | h <;> simp [h], fun h => ?_, fun h => ?_, fun h => ?_, fun h => ?_, trivial⟩
    all_goals
      refine ⟨hm.1, by show stN b < 4; omega, by omega, by decide, by omega, ⟨0⟩, ?_⟩
      and_intros
      all_goals first | rfl | trivial | skip
      intro j hj
      rw [h, cell j hj, Nat.zero_add, cell _ (by omega)]
      rcases Nat.lt_trichotomy j (stN b).toNat with hl | hl | hl
      · have e1 : j.beq (stN b).toNat = false := by rw [beqN]; simp; omega
        have e2 : ((j : Int) == stN b) = false := by simp; omega
        rw [e1]; simp [stO, s2, e2]; try omega
      · have e1 : j.beq (stN b).toNat = true := by rw [beqN, hl]; simp
        have e2 : ((j : Int) == stN b) = true := by simp; omega
        rw [e1]; simp [stO, s2, e2]; try omega
      · have e1 : j.beq (stN b).toNat = false := by rw [beqN]; simp; omega
        have e2 : ((j : Int) == stN b) = false := by simp; omega
        rw [e1]; simp [stO, s2, e2]; try omega
  · refine ⟨rfl, fun _ _ => rfl, by omega, ⟨⟨0⟩, by show (0 : Int) ≤ stN b + 1; omega, ?_⟩, fun y h2 => ⟨fun h => ⟨fun _ _ => rfl, fun hov => ?_, fun hov => ?_⟩, fun h => ?_⟩⟩
    · and_intros <;> first | rfl | trivial
    · have h2' : (y.i : Int) ≤ stN b + 1 := h2
      have hy : (y.i : Int) = stN b + 1 := by
        rcases Int.lt_or_le (stN b) y.i with hl | hl
        · omega
        · rw [hF y.i hl] at hov
          simp [stS] at hov
      obtain ⟨i, hi⟩ : ∃ i : Nat, y.i = i + 1 := ⟨y.i - 1, by omega⟩
      have him : (i : Int) = stN b := by omega
      refine ⟨fun _ _ => rfl, ⟨by omega, by omega⟩, ?_⟩
      rw [hi, hE i him]
      simp [him]
    · have h2' : (y.i : Int) ≤ stN b + 1 := h2
      have hy : (y.i : Int) ≤ stN b := by
        rcases Int.lt_or_le (stN b) y.i with hl | hl
        · obtain ⟨i, hi⟩ : ∃ i : Nat, y.i = i + 1 := ⟨y.i - 1, by omega⟩
          rw [hi, hE i (by omega)] at hov
          simp at hov
        · exact hl
      refine ⟨fun _ _ => rfl, (hok y.i).can hk, ⟨by omega, by omega⟩, ⟨by omega, by omega⟩, ⟨y.i + 1⟩, by show ((y.i + 1 : Nat) : Int) ≤ stN b + 1; omega, by show 5 - (y.i + 1) < 5 - y.i; omega, ?_⟩
      and_intros <;> first | rfl | trivial
    · have h2' : (y.i : Int) ≤ stN b + 1 := h2
      have : ¬ (y.i : Int) < 9 := by simpa using h
      omega
def stopsC : CT := C2 dInt dInt (fun _ _ => []) fun _ _ => XB true
theorem stops_ok : CTok Try.prog 11 stopsC := C2_ok cx5_ok Try.func11 rfl (by decide) dInt_eq.ok dInt_eq.ok (by kernel_rfl) (fun _ _ => rfl) fun a b _ => exv (stopsV_eq a b) (stops_v a b)
end Go.Proofs.YtljgkjkdmoejfaaAv
