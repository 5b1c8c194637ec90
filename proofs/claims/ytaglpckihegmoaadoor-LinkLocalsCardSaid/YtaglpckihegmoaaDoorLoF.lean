/- Own texts, put together. -/
import Derived.Test.YtaglpckihegmoaaDoorLoE
import Derived.WalkKit
import Derived.Deep.LoopGhost
import Derived.Laws.OwnMore
import Derived.Laws.CopyRow
import Derived.Lib.ConvBytes
import Derived.Below
import Derived.KernelRfl
import Derived.Scope
import Derived.Laws.BytesString
import Derived.DataElems
import Derived.Laws.Tables
import Derived.Laws.Cells
import Derived.Laws.StructEq
import Derived.Laws.RangeString
import Derived.BigQuiet
import Derived.Test.YtaglpckihegmoaaDoorProg
import Derived.Shelf.Small.Wraps
import Derived.Shelf.Utf8.RuneCount
import Derived.Shelf.Strings.Search1
import Derived.Shelf.Strings.Search2
import Derived.Shelf.Strings.Search3
import Derived.Shelf.Strings.Count
import Derived.Shelf.LaysM
import Derived.Shelf.Strings.Shaped
import Derived.Shelf.Strings.LastIndex
import Derived.Shelf.Strings.Prefix
import Derived.Shelf.Strings.Split
import Derived.Shelf.Strings.Fold
import Derived.Shelf.Unicode.Decode
import Derived.Shelf.Strings.RuneCount
import Derived.Shelf.Unicode.DecodeSlow
import Derived.Shelf.Unicode.DecodeAny
import Derived.Shelf.Unicode.ValidAny
import Derived.Shelf.Unicode.CaseLookup
import Derived.Shelf.Unicode.CaseConvert
import Derived.OpenShut
import Derived.SliceStrings
import Derived.ChangeSlices
import Derived.SizedLaws
import Derived.Carry
import Derived.Lib.LaidTab
import Derived.Shelf.Vars
import Derived.WideKeyArr2
import Derived.Lay
import Derived.Deep.DeepHandedRow
import Derived.Test.YtaglpckihegmoaaDoorRows
import Derived.Lib.LaidU8T
import Derived.DataReads
import Derived.Lib.Replace
set_option linter.unusedVariables false
set_option linter.unusedSimpArgs false
set_option maxRecDepth 100000
namespace Go.Proofs.YtaglpckihegmoaaDoorAv
open Go Go.RowKit
def tbS (q : Sq Lnk) : Nat → LTab
 | 0 => tab0
 | i + 1 => setTb (tbS q i) i (q.g i)
def wnN (q : Sq Lnk) (gone : Int) : Nat → Nat
 | 0 => 0
 | i + 1 => if (i : Int) = gone then wnN q gone i else wnN q gone i + (q.g i).loc.n
def wnG (q : Sq Lnk) (gone : Int) : Nat → Nat → List XV
 | 0 => fun _ => []
 | i + 1 => if (i : Int) = gone then wnG q gone i else catF (wnN q gone i) (wnG q gone i) (q.g i).loc.g
def TL (q : Sq Lnk) (gone : Int) : LTab := remTb (tbS q q.n) gone
def lkI (q : Sq Lnk) (gone : Int) : Inv where
 σ := IL
 S := fun x => ⟨[(1, XI gone), (5, .ptr 0 0 0 0), (6, .sl 1 18 0 (wnN q gone x.i)), (17, .fz q.n 7 fun i => lnkX (q.g i)), (18, XI q.n), (19, XI x.i)], [(0, .one 70 true (tabX (tbS q x.i))), (1, .vec 46 true (wnN q gone x.i) 18 (wnG q gone x.i))], 2, false, []⟩
 inv := fun x => x.i ≤ q.n ∧ q.n ≤ 4 ∧ ∀ j, j < x.i → rgtK (q.g j) = true ∧ shtK (q.g j) < 2000
 μ := fun x => q.n - x.i
def lkC (q : Sq Lnk) (gone : Int) : Inv where
 σ := IL
 S := fun x => ⟨[(6, .sl 1 18 0 (wnN q gone q.n)), (9, .fz (locN (TL q gone)) 18 fun j => lclX (locH (TL q gone) j))], [(0, .one 70 true (tabX (TL q gone))), (1, .vec 46 true (wnN q gone q.n) 18 (wnG q gone q.n))], 2, false, []⟩
 inv := fun x => q.n ≤ 4 ∧ ∀ j, j < q.n → rgtK (q.g j) = true ∧ shtK (q.g j) < 2000
 μ := fun _ => 0
def lkD (q : Sq Lnk) (gone : Int) : Inv where
 σ := IL
 S := fun x => ⟨[(6, .sl 1 18 0 (locN (TL q gone))), (9, .fz (locN (TL q gone)) 18 fun j => lclX (locH (TL q gone) j)), (56, XI (locN (TL q gone))), (57, XI x.i)], [(1, .vec 46 true (locN (TL q gone)) 18 fun j => lclX (locH (TL q gone) j))], 2, false, []⟩
 inv := fun x => x.i ≤ locN (TL q gone) ∧ locN (TL q gone) ≤ 16
 μ := fun x => locN (TL q gone) - x.i
def lkE (q : Sq Lnk) (gone : Int) : Env := { loops := [(0, lkI q gone), (2, lkD q gone)], cuts := [(19, lkC q gone)], own := [(7, [(6, 46, 18)])] }
def cxLl : Cx := { cx0 with C := [(9, C0 [] (XB true)), (10, shC), (11, rkC)], L := [(12, itNew 70 newM), (13, itT setC), (16, itT remC), (17, itT lcsC)], V := true }
def lkV (q : Sq Lnk) (gone : Int) : Prop :=
 ((!true) = true → false = true) ∧ ((!true) = false → (decide ((↑q.n : Int) > (4 : Int)) = true → true = true) ∧ (decide ((↑q.n : Int) > (4 : Int)) = false → (∃ (x : (lkI q gone).σ), (x.i ≤ q.n ∧ q.n ≤ (4 : Nat) ∧ ∀ (j : Nat), j < x.i → rgtK (q.g j) = true ∧ shtK (q.g j) < (2000 : Nat)) ∧ true = true ∧ gone = gone ∧ XV.ptr 0 0 0 0 = XV.ptr 0 0 0 0 ∧ XV.sl ((0 : Nat) + (1 : Nat)) 18 0 0 = XV.sl 1 18 0 (wnN q gone x.i) ∧ ((XV.fz q.n 7 fun (i : Nat) => [XB ((q.g i).live), XI ((q.g i).gen), XV.fz (q.g i).dom.n 1 fun (j : Nat) => [XT ((q.g i).dom.g j)], XB ((q.g i).dft), XB ((q.g i).ll), XV.fz (q.g i).srv.n 16 (q.g i).srv.g, XV.fz (q.g i).loc.n 18 (q.g i).loc.g]) = XV.fz q.n 7 fun (i : Nat) => [XB ((q.g i).live), XI ((q.g i).gen), XV.fz (q.g i).dom.n 1 fun (j : Nat) => [XT ((q.g i).dom.g j)], XB ((q.g i).dft), XB ((q.g i).ll), XV.fz (q.g i).srv.n 16 (q.g i).srv.g, XV.fz (q.g i).loc.n 18 (q.g i).loc.g]) ∧ (↑q.n : Int) = (↑q.n : Int) ∧ (0 : Int) = (↑x.i : Int) ∧ (((70 : TypeId) = (70 : TypeId) ∧ true = true) ∧ false = (tbS q x.i).l0.live ∧ (0 : Int) = (tbS q x.i).l0.gen ∧ ((XV.fz 0 1 fun (j : Nat) => [XT (⟨#[]⟩)]) = XV.fz (tbS q x.i).l0.dom.n 1 fun (j : Nat) => [XT ((tbS q x.i).l0.dom.g j)]) ∧ false = (tbS q x.i).l0.dft ∧ false = (tbS q x.i).l0.ll ∧ (XV.fz 0 16 fun (x : Nat) => []) = XV.fz (tbS q x.i).l0.srv.n 16 (tbS q x.i).l0.srv.g ∧ (XV.fz 0 18 fun (x : Nat) => []) = XV.fz (tbS q x.i).l0.loc.n 18 (tbS q x.i).l0.loc.g ∧ false = (tbS q x.i).l1.live ∧ (0 : Int) = (tbS q x.i).l1.gen ∧ ((XV.fz 0 1 fun (j : Nat) => [XT (⟨#[]⟩)]) = XV.fz (tbS q x.i).l1.dom.n 1 fun (j : Nat) => [XT ((tbS q x.i).l1.dom.g j)]) ∧ false = (tbS q x.i).l1.dft ∧ false = (tbS q x.i).l1.ll ∧ (XV.fz 0 16 fun (x : Nat) => []) = XV.fz (tbS q x.i).l1.srv.n 16 (tbS q x.i).l1.srv.g ∧ (XV.fz 0 18 fun (x : Nat) => []) = XV.fz (tbS q x.i).l1.loc.n 18 (tbS q x.i).l1.loc.g ∧ false = (tbS q x.i).l2.live ∧ (0 : Int) = (tbS q x.i).l2.gen ∧ ((XV.fz 0 1 fun (j : Nat) => [XT (⟨#[]⟩)]) = XV.fz (tbS q x.i).l2.dom.n 1 fun (j : Nat) => [XT ((tbS q x.i).l2.dom.g j)]) ∧ false = (tbS q x.i).l2.dft ∧ false = (tbS q x.i).l2.ll ∧ (XV.fz 0 16 fun (x : Nat) => []) = XV.fz (tbS q x.i).l2.srv.n 16 (tbS q x.i).l2.srv.g ∧ (XV.fz 0 18 fun (x : Nat) => []) = XV.fz (tbS q x.i).l2.loc.n 18 (tbS q x.i).l2.loc.g ∧ false = (tbS q x.i).l3.live ∧ (0 : Int) = (tbS q x.i).l3.gen ∧ ((XV.fz 0 1 fun (j : Nat) => [XT (⟨#[]⟩)]) = XV.fz (tbS q x.i).l3.dom.n 1 fun (j : Nat) => [XT ((tbS q x.i).l3.dom.g j)]) ∧ false = (tbS q x.i).l3.dft ∧ false = (tbS q x.i).l3.ll ∧ (XV.fz 0 16 fun (x : Nat) => []) = XV.fz (tbS q x.i).l3.srv.n 16 (tbS q x.i).l3.srv.g ∧ (XV.fz 0 18 fun (x : Nat) => []) = XV.fz (tbS q x.i).l3.loc.n 18 (tbS q x.i).l3.loc.g ∧ XV.top = XV.top ∧ XV.top = XV.top ∧ XV.top = XV.top ∧ XV.top = XV.top ∧ tab0.g = (tbS q x.i).g ∧ True) ∧ (((46 : Nat) = (46 : TypeId) ∧ true = true ∧ (18 : Nat) = (18 : Nat)) ∧ (0 : Nat) = wnN q gone x.i ∧ ∀ (j : Nat), j < (0 : Nat) → [] = wnG q gone x.i j) ∧ True) ∧ ∀ (x : IL), (x.i ≤ q.n ∧ q.n ≤ (4 : Nat) ∧ ∀ (j : Nat), j < x.i → rgtK (q.g j) = true ∧ shtK (q.g j) < (2000 : Nat)) → (decide ((↑x.i : Int) < (↑q.n : Int)) = true → (0 : Int) ≤ (↑x.i : Int) ∧ (↑x.i : Int) < (↑q.n : Int) ∧ (∀ (i : Nat), i < (q.g (↑x.i : Int).toNat).dom.n → [XT ((q.g (↑x.i : Int).toNat).dom.g i)] = [XT ((q.g (↑x.i : Int).toNat).dom.g i)]) ∧ (q.g (↑x.i : Int).toNat).dom.n ≤ (4611686018427387904 : Nat) ∧ ((!!decide (shwK (q.g (↑x.i : Int).toNat) < (2000 : Int))) = true → ∀ (i : Nat), i < (q.g (↑x.i : Int).toNat).dom.n → [XT ((q.g (↑x.i : Int).toNat).dom.g i)] = [XT ((q.g (↑x.i : Int).toNat).dom.g i)]) ∧ ((!!decide (shwK (q.g (↑x.i : Int).toNat) < (2000 : Int))) = true → (q.g (↑x.i : Int).toNat).dom.n ≤ (4611686018427387904 : Nat)) ∧ ((!decide (shwK (q.g (↑x.i : Int).toNat) < (2000 : Int)) || !rgtK (q.g (↑x.i : Int).toNat)) = true → true = true) ∧ ((!decide (shwK (q.g (↑x.i : Int).toNat) < (2000 : Int)) || !rgtK (q.g (↑x.i : Int).toNat)) = false → (∀ (i : Nat), i < (tbS q x.i).l0.dom.n → [XT ((tbS q x.i).l0.dom.g i)] = [XT ((tbS q x.i).l0.dom.g i)]) ∧ (∀ (i : Nat), i < (tbS q x.i).l1.dom.n → [XT ((tbS q x.i).l1.dom.g i)] = [XT ((tbS q x.i).l1.dom.g i)]) ∧ (∀ (i : Nat), i < (tbS q x.i).l2.dom.n → [XT ((tbS q x.i).l2.dom.g i)] = [XT ((tbS q x.i).l2.dom.g i)]) ∧ (∀ (i : Nat), i < (tbS q x.i).l3.dom.n → [XT ((tbS q x.i).l3.dom.g i)] = [XT ((tbS q x.i).l3.dom.g i)]) ∧ (∀ (i : Nat), i < (q.g (↑x.i : Int).toNat).dom.n → [XT ((q.g (↑x.i : Int).toNat).dom.g i)] = [XT ((q.g (↑x.i : Int).toNat).dom.g i)]) ∧ (q.g (↑x.i : Int).toNat).dom.n ≤ (1000000000 : Nat) ∧ ((-4611686018427387904 : Int) ≤ (tbS q x.i).g ∧ (tbS q x.i).g ≤ (4611686018427387904 : Int)) ∧ ((setN (↑x.i : Int) (q.g (↑x.i : Int).toNat) != (0 : Int)) = true → false = true) ∧ ((setN (↑x.i : Int) (q.g (↑x.i : Int).toNat) != (0 : Int)) = false → (((↑x.i : Int) != gone) = true → wnN q gone x.i = wnN q gone x.i ∧ (wnN q gone x.i + (q.g (↑x.i : Int).toNat).loc.n) * (18 : Nat) ≤ (140737488355328 : Nat) ∧ wnN q gone x.i + (q.g (↑x.i : Int).toNat).loc.n ≤ (140737488355328 : Nat) ∧ in64 ((↑x.i : Int) + (1 : Int)) ∧ ∃ (x' : (lkI q gone).σ), (x'.i ≤ q.n ∧ q.n ≤ (4 : Nat) ∧ ∀ (j : Nat), j < x'.i → rgtK (q.g j) = true ∧ shtK (q.g j) < (2000 : Nat)) ∧ q.n - x'.i < q.n - x.i ∧ true = true ∧ gone = gone ∧ XV.ptr 0 0 0 0 = XV.ptr 0 0 0 0 ∧ XV.sl 1 18 0 (wnN q gone x.i + (q.g (↑x.i : Int).toNat).loc.n) = XV.sl 1 18 0 (wnN q gone x'.i) ∧ ((XV.fz q.n 7 fun (i : Nat) => [XB ((q.g i).live), XI ((q.g i).gen), XV.fz (q.g i).dom.n 1 fun (j : Nat) => [XT ((q.g i).dom.g j)], XB ((q.g i).dft), XB ((q.g i).ll), XV.fz (q.g i).srv.n 16 (q.g i).srv.g, XV.fz (q.g i).loc.n 18 (q.g i).loc.g]) = XV.fz q.n 7 fun (i : Nat) => [XB ((q.g i).live), XI ((q.g i).gen), XV.fz (q.g i).dom.n 1 fun (j : Nat) => [XT ((q.g i).dom.g j)], XB ((q.g i).dft), XB ((q.g i).ll), XV.fz (q.g i).srv.n 16 (q.g i).srv.g, XV.fz (q.g i).loc.n 18 (q.g i).loc.g]) ∧ (↑q.n : Int) = (↑q.n : Int) ∧ (↑x.i : Int) + (1 : Int) = (↑x'.i : Int) ∧ (((70 : TypeId) = (70 : TypeId) ∧ true = true) ∧ (setTb (tbS q x.i) (↑x.i : Int) (q.g (↑x.i : Int).toNat)).l0.live = (tbS q x'.i).l0.live ∧ (setTb (tbS q x.i) (↑x.i : Int) (q.g (↑x.i : Int).toNat)).l0.gen = (tbS q x'.i).l0.gen ∧ ((XV.fz (setTb (tbS q x.i) (↑x.i : Int) (q.g (↑x.i : Int).toNat)).l0.dom.n 1 fun (j : Nat) => [XT ((setTb (tbS q x.i) (↑x.i : Int) (q.g (↑x.i : Int).toNat)).l0.dom.g j)]) = XV.fz (tbS q x'.i).l0.dom.n 1 fun (j : Nat) => [XT ((tbS q x'.i).l0.dom.g j)]) ∧ (setTb (tbS q x.i) (↑x.i : Int) (q.g (↑x.i : Int).toNat)).l0.dft = (tbS q x'.i).l0.dft ∧ (setTb (tbS q x.i) (↑x.i : Int) (q.g (↑x.i : Int).toNat)).l0.ll = (tbS q x'.i).l0.ll ∧ XV.fz (setTb (tbS q x.i) (↑x.i : Int) (q.g (↑x.i : Int).toNat)).l0.srv.n 16 (setTb (tbS q x.i) (↑x.i : Int) (q.g (↑x.i : Int).toNat)).l0.srv.g = XV.fz (tbS q x'.i).l0.srv.n 16 (tbS q x'.i).l0.srv.g ∧ XV.fz (setTb (tbS q x.i) (↑x.i : Int) (q.g (↑x.i : Int).toNat)).l0.loc.n 18 (setTb (tbS q x.i) (↑x.i : Int) (q.g (↑x.i : Int).toNat)).l0.loc.g = XV.fz (tbS q x'.i).l0.loc.n 18 (tbS q x'.i).l0.loc.g ∧ (setTb (tbS q x.i) (↑x.i : Int) (q.g (↑x.i : Int).toNat)).l1.live = (tbS q x'.i).l1.live ∧ (setTb (tbS q x.i) (↑x.i : Int) (q.g (↑x.i : Int).toNat)).l1.gen = (tbS q x'.i).l1.gen ∧ ((XV.fz (setTb (tbS q x.i) (↑x.i : Int) (q.g (↑x.i : Int).toNat)).l1.dom.n 1 fun (j : Nat) => [XT ((setTb (tbS q x.i) (↑x.i : Int) (q.g (↑x.i : Int).toNat)).l1.dom.g j)]) = XV.fz (tbS q x'.i).l1.dom.n 1 fun (j : Nat) => [XT ((tbS q x'.i).l1.dom.g j)]) ∧ (setTb (tbS q x.i) (↑x.i : Int) (q.g (↑x.i : Int).toNat)).l1.dft = (tbS q x'.i).l1.dft ∧ (setTb (tbS q x.i) (↑x.i : Int) (q.g (↑x.i : Int).toNat)).l1.ll = (tbS q x'.i).l1.ll ∧ XV.fz (setTb (tbS q x.i) (↑x.i : Int) (q.g (↑x.i : Int).toNat)).l1.srv.n 16 (setTb (tbS q x.i) (↑x.i : Int) (q.g (↑x.i : Int).toNat)).l1.srv.g = XV.fz (tbS q x'.i).l1.srv.n 16 (tbS q x'.i).l1.srv.g ∧ XV.fz (setTb (tbS q x.i) (↑x.i : Int) (q.g (↑x.i : Int).toNat)).l1.loc.n 18 (setTb (tbS q x.i) (↑x.i : Int) (q.g (↑x.i : Int).toNat)).l1.loc.g = XV.fz (tbS q x'.i).l1.loc.n 18 (tbS q x'.i).l1.loc.g ∧ (setTb (tbS q x.i) (↑x.i : Int) (q.g (↑x.i : Int).toNat)).l2.live = (tbS q x'.i).l2.live ∧ (setTb (tbS q x.i) (↑x.i : Int) (q.g (↑x.i : Int).toNat)).l2.gen = (tbS q x'.i).l2.gen ∧ ((XV.fz (setTb (tbS q x.i) (↑x.i : Int) (q.g (↑x.i : Int).toNat)).l2.dom.n 1 fun (j : Nat) => [XT ((setTb (tbS q x.i) (↑x.i : Int) (q.g (↑x.i : Int).toNat)).l2.dom.g j)]) = XV.fz (tbS q x'.i).l2.dom.n 1 fun (j : Nat) => [XT ((tbS q x'.i).l2.dom.g j)]) ∧ (setTb (tbS q x.i) (↑x.i : Int) (q.g (↑x.i : Int).toNat)).l2.dft = (tbS q x'.i).l2.dft ∧ (setTb (tbS q x.i) (↑x.i : Int) (q.g (↑x.i : Int).toNat)).l2.ll = (tbS q x'.i).l2.ll ∧ XV.fz (setTb (tbS q x.i) (↑x.i : Int) (q.g (↑x.i : Int).toNat)).l2.srv.n 16 (setTb (tbS q x.i) (↑x.i : Int) (q.g (↑x.i : Int).toNat)).l2.srv.g = XV.fz (tbS q x'.i).l2.srv.n 16 (tbS q x'.i).l2.srv.g ∧ XV.fz (setTb (tbS q x.i) (↑x.i : Int) (q.g (↑x.i : Int).toNat)).l2.loc.n 18 (setTb (tbS q x.i) (↑x.i : Int) (q.g (↑x.i : Int).toNat)).l2.loc.g = XV.fz (tbS q x'.i).l2.loc.n 18 (tbS q x'.i).l2.loc.g ∧ (setTb (tbS q x.i) (↑x.i : Int) (q.g (↑x.i : Int).toNat)).l3.live = (tbS q x'.i).l3.live ∧ (setTb (tbS q x.i) (↑x.i : Int) (q.g (↑x.i : Int).toNat)).l3.gen = (tbS q x'.i).l3.gen ∧ ((XV.fz (setTb (tbS q x.i) (↑x.i : Int) (q.g (↑x.i : Int).toNat)).l3.dom.n 1 fun (j : Nat) => [XT ((setTb (tbS q x.i) (↑x.i : Int) (q.g (↑x.i : Int).toNat)).l3.dom.g j)]) = XV.fz (tbS q x'.i).l3.dom.n 1 fun (j : Nat) => [XT ((tbS q x'.i).l3.dom.g j)]) ∧ (setTb (tbS q x.i) (↑x.i : Int) (q.g (↑x.i : Int).toNat)).l3.dft = (tbS q x'.i).l3.dft ∧ (setTb (tbS q x.i) (↑x.i : Int) (q.g (↑x.i : Int).toNat)).l3.ll = (tbS q x'.i).l3.ll ∧ XV.fz (setTb (tbS q x.i) (↑x.i : Int) (q.g (↑x.i : Int).toNat)).l3.srv.n 16 (setTb (tbS q x.i) (↑x.i : Int) (q.g (↑x.i : Int).toNat)).l3.srv.g = XV.fz (tbS q x'.i).l3.srv.n 16 (tbS q x'.i).l3.srv.g ∧ XV.fz (setTb (tbS q x.i) (↑x.i : Int) (q.g (↑x.i : Int).toNat)).l3.loc.n 18 (setTb (tbS q x.i) (↑x.i : Int) (q.g (↑x.i : Int).toNat)).l3.loc.g = XV.fz (tbS q x'.i).l3.loc.n 18 (tbS q x'.i).l3.loc.g ∧ XV.top = XV.top ∧ XV.top = XV.top ∧ XV.top = XV.top ∧ XV.top = XV.top ∧ (setTb (tbS q x.i) (↑x.i : Int) (q.g (↑x.i : Int).toNat)).g = (tbS q x'.i).g ∧ True) ∧ (((46 : TypeId) = (46 : TypeId) ∧ true = true ∧ (18 : Nat) = (18 : Nat)) ∧ wnN q gone x.i + (q.g (↑x.i : Int).toNat).loc.n = wnN q gone x'.i ∧ ∀ (j : Nat), j < wnN q gone x.i + (q.g (↑x.i : Int).toNat).loc.n → Bool.rec ((q.g (↑x.i : Int).toNat).loc.g (j - wnN q gone x.i)) (wnG q gone x.i j) (j.blt (wnN q gone x.i)) = wnG q gone x'.i j) ∧ True) ∧ (((↑x.i : Int) != gone) = false → in64 ((↑x.i : Int) + (1 : Int)) ∧ ∃ (x' : (lkI q gone).σ), (x'.i ≤ q.n ∧ q.n ≤ (4 : Nat) ∧ ∀ (j : Nat), j < x'.i → rgtK (q.g j) = true ∧ shtK (q.g j) < (2000 : Nat)) ∧ q.n - x'.i < q.n - x.i ∧ true = true ∧ gone = gone ∧ XV.ptr 0 0 0 0 = XV.ptr 0 0 0 0 ∧ XV.sl 1 18 0 (wnN q gone x.i) = XV.sl 1 18 0 (wnN q gone x'.i) ∧ ((XV.fz q.n 7 fun (i : Nat) => [XB ((q.g i).live), XI ((q.g i).gen), XV.fz (q.g i).dom.n 1 fun (j : Nat) => [XT ((q.g i).dom.g j)], XB ((q.g i).dft), XB ((q.g i).ll), XV.fz (q.g i).srv.n 16 (q.g i).srv.g, XV.fz (q.g i).loc.n 18 (q.g i).loc.g]) = XV.fz q.n 7 fun (i : Nat) => [XB ((q.g i).live), XI ((q.g i).gen), XV.fz (q.g i).dom.n 1 fun (j : Nat) => [XT ((q.g i).dom.g j)], XB ((q.g i).dft), XB ((q.g i).ll), XV.fz (q.g i).srv.n 16 (q.g i).srv.g, XV.fz (q.g i).loc.n 18 (q.g i).loc.g]) ∧ (↑q.n : Int) = (↑q.n : Int) ∧ (↑x.i : Int) + (1 : Int) = (↑x'.i : Int) ∧ (((70 : TypeId) = (70 : TypeId) ∧ true = true) ∧ (setTb (tbS q x.i) (↑x.i : Int) (q.g (↑x.i : Int).toNat)).l0.live = (tbS q x'.i).l0.live ∧ (setTb (tbS q x.i) (↑x.i : Int) (q.g (↑x.i : Int).toNat)).l0.gen = (tbS q x'.i).l0.gen ∧ ((XV.fz (setTb (tbS q x.i) (↑x.i : Int) (q.g (↑x.i : Int).toNat)).l0.dom.n 1 fun (j : Nat) => [XT ((setTb (tbS q x.i) (↑x.i : Int) (q.g (↑x.i : Int).toNat)).l0.dom.g j)]) = XV.fz (tbS q x'.i).l0.dom.n 1 fun (j : Nat) => [XT ((tbS q x'.i).l0.dom.g j)]) ∧ (setTb (tbS q x.i) (↑x.i : Int) (q.g (↑x.i : Int).toNat)).l0.dft = (tbS q x'.i).l0.dft ∧ (setTb (tbS q x.i) (↑x.i : Int) (q.g (↑x.i : Int).toNat)).l0.ll = (tbS q x'.i).l0.ll ∧ XV.fz (setTb (tbS q x.i) (↑x.i : Int) (q.g (↑x.i : Int).toNat)).l0.srv.n 16 (setTb (tbS q x.i) (↑x.i : Int) (q.g (↑x.i : Int).toNat)).l0.srv.g = XV.fz (tbS q x'.i).l0.srv.n 16 (tbS q x'.i).l0.srv.g ∧ XV.fz (setTb (tbS q x.i) (↑x.i : Int) (q.g (↑x.i : Int).toNat)).l0.loc.n 18 (setTb (tbS q x.i) (↑x.i : Int) (q.g (↑x.i : Int).toNat)).l0.loc.g = XV.fz (tbS q x'.i).l0.loc.n 18 (tbS q x'.i).l0.loc.g ∧ (setTb (tbS q x.i) (↑x.i : Int) (q.g (↑x.i : Int).toNat)).l1.live = (tbS q x'.i).l1.live ∧ (setTb (tbS q x.i) (↑x.i : Int) (q.g (↑x.i : Int).toNat)).l1.gen = (tbS q x'.i).l1.gen ∧ ((XV.fz (setTb (tbS q x.i) (↑x.i : Int) (q.g (↑x.i : Int).toNat)).l1.dom.n 1 fun (j : Nat) => [XT ((setTb (tbS q x.i) (↑x.i : Int) (q.g (↑x.i : Int).toNat)).l1.dom.g j)]) = XV.fz (tbS q x'.i).l1.dom.n 1 fun (j : Nat) => [XT ((tbS q x'.i).l1.dom.g j)]) ∧ (setTb (tbS q x.i) (↑x.i : Int) (q.g (↑x.i : Int).toNat)).l1.dft = (tbS q x'.i).l1.dft ∧ (setTb (tbS q x.i) (↑x.i : Int) (q.g (↑x.i : Int).toNat)).l1.ll = (tbS q x'.i).l1.ll ∧ XV.fz (setTb (tbS q x.i) (↑x.i : Int) (q.g (↑x.i : Int).toNat)).l1.srv.n 16 (setTb (tbS q x.i) (↑x.i : Int) (q.g (↑x.i : Int).toNat)).l1.srv.g = XV.fz (tbS q x'.i).l1.srv.n 16 (tbS q x'.i).l1.srv.g ∧ XV.fz (setTb (tbS q x.i) (↑x.i : Int) (q.g (↑x.i : Int).toNat)).l1.loc.n 18 (setTb (tbS q x.i) (↑x.i : Int) (q.g (↑x.i : Int).toNat)).l1.loc.g = XV.fz (tbS q x'.i).l1.loc.n 18 (tbS q x'.i).l1.loc.g ∧ (setTb (tbS q x.i) (↑x.i : Int) (q.g (↑x.i : Int).toNat)).l2.live = (tbS q x'.i).l2.live ∧ (setTb (tbS q x.i) (↑x.i : Int) (q.g (↑x.i : Int).toNat)).l2.gen = (tbS q x'.i).l2.gen ∧ ((XV.fz (setTb (tbS q x.i) (↑x.i : Int) (q.g (↑x.i : Int).toNat)).l2.dom.n 1 fun (j : Nat) => [XT ((setTb (tbS q x.i) (↑x.i : Int) (q.g (↑x.i : Int).toNat)).l2.dom.g j)]) = XV.fz (tbS q x'.i).l2.dom.n 1 fun (j : Nat) => [XT ((tbS q x'.i).l2.dom.g j)]) ∧ (setTb (tbS q x.i) (↑x.i : Int) (q.g (↑x.i : Int).toNat)).l2.dft = (tbS q x'.i).l2.dft ∧ (setTb (tbS q x.i) (↑x.i : Int) (q.g (↑x.i : Int).toNat)).l2.ll = (tbS q x'.i).l2.ll ∧ XV.fz (setTb (tbS q x.i) (↑x.i : Int) (q.g (↑x.i : Int).toNat)).l2.srv.n 16 (setTb (tbS q x.i) (↑x.i : Int) (q.g (↑x.i : Int).toNat)).l2.srv.g = XV.fz (tbS q x'.i).l2.srv.n 16 (tbS q x'.i).l2.srv.g ∧ XV.fz (setTb (tbS q x.i) (↑x.i : Int) (q.g (↑x.i : Int).toNat)).l2.loc.n 18 (setTb (tbS q x.i) (↑x.i : Int) (q.g (↑x.i : Int).toNat)).l2.loc.g = XV.fz (tbS q x'.i).l2.loc.n 18 (tbS q x'.i).l2.loc.g ∧ (setTb (tbS q x.i) (↑x.i : Int) (q.g (↑x.i : Int).toNat)).l3.live = (tbS q x'.i).l3.live ∧ (setTb (tbS q x.i) (↑x.i : Int) (q.g (↑x.i : Int).toNat)).l3.gen = (tbS q x'.i).l3.gen ∧ ((XV.fz (setTb (tbS q x.i) (↑x.i : Int) (q.g (↑x.i : Int).toNat)).l3.dom.n 1 fun (j : Nat) => [XT ((setTb (tbS q x.i) (↑x.i : Int) (q.g (↑x.i : Int).toNat)).l3.dom.g j)]) = XV.fz (tbS q x'.i).l3.dom.n 1 fun (j : Nat) => [XT ((tbS q x'.i).l3.dom.g j)]) ∧ (setTb (tbS q x.i) (↑x.i : Int) (q.g (↑x.i : Int).toNat)).l3.dft = (tbS q x'.i).l3.dft ∧ (setTb (tbS q x.i) (↑x.i : Int) (q.g (↑x.i : Int).toNat)).l3.ll = (tbS q x'.i).l3.ll ∧ XV.fz (setTb (tbS q x.i) (↑x.i : Int) (q.g (↑x.i : Int).toNat)).l3.srv.n 16 (setTb (tbS q x.i) (↑x.i : Int) (q.g (↑x.i : Int).toNat)).l3.srv.g = XV.fz (tbS q x'.i).l3.srv.n 16 (tbS q x'.i).l3.srv.g ∧ XV.fz (setTb (tbS q x.i) (↑x.i : Int) (q.g (↑x.i : Int).toNat)).l3.loc.n 18 (setTb (tbS q x.i) (↑x.i : Int) (q.g (↑x.i : Int).toNat)).l3.loc.g = XV.fz (tbS q x'.i).l3.loc.n 18 (tbS q x'.i).l3.loc.g ∧ XV.top = XV.top ∧ XV.top = XV.top ∧ XV.top = XV.top ∧ XV.top = XV.top ∧ (setTb (tbS q x.i) (↑x.i : Int) (q.g (↑x.i : Int).toNat)).g = (tbS q x'.i).g ∧ True) ∧ (((46 : TypeId) = (46 : TypeId) ∧ true = true ∧ (18 : Nat) = (18 : Nat)) ∧ wnN q gone x.i = wnN q gone x'.i ∧ ∀ (j : Nat), j < wnN q gone x.i → wnG q gone x.i j = wnG q gone x'.i j) ∧ True)))) ∧ (decide ((↑x.i : Int) < (↑q.n : Int)) = false → (∀ (i : Nat), i < (tbS q x.i).l0.dom.n → [XT ((tbS q x.i).l0.dom.g i)] = [XT ((tbS q x.i).l0.dom.g i)]) ∧ (∀ (i : Nat), i < (tbS q x.i).l1.dom.n → [XT ((tbS q x.i).l1.dom.g i)] = [XT ((tbS q x.i).l1.dom.g i)]) ∧ (∀ (i : Nat), i < (tbS q x.i).l2.dom.n → [XT ((tbS q x.i).l2.dom.g i)] = [XT ((tbS q x.i).l2.dom.g i)]) ∧ (∀ (i : Nat), i < (tbS q x.i).l3.dom.n → [XT ((tbS q x.i).l3.dom.g i)] = [XT ((tbS q x.i).l3.dom.g i)]) ∧ ((∀ (i : Nat), i < (remTb (tbS q x.i) gone).l0.dom.n → [XT ((remTb (tbS q x.i) gone).l0.dom.g i)] = [XT ((remTb (tbS q x.i) gone).l0.dom.g i)]) ∧ (∀ (i : Nat), i < (remTb (tbS q x.i) gone).l1.dom.n → [XT ((remTb (tbS q x.i) gone).l1.dom.g i)] = [XT ((remTb (tbS q x.i) gone).l1.dom.g i)]) ∧ (∀ (i : Nat), i < (remTb (tbS q x.i) gone).l2.dom.n → [XT ((remTb (tbS q x.i) gone).l2.dom.g i)] = [XT ((remTb (tbS q x.i) gone).l2.dom.g i)]) ∧ (∀ (i : Nat), i < (remTb (tbS q x.i) gone).l3.dom.n → [XT ((remTb (tbS q x.i) gone).l3.dom.g i)] = [XT ((remTb (tbS q x.i) gone).l3.dom.g i)]) ∧ locOk (remTb (tbS q x.i) gone) ∧ ∃ (x_1 : (lkC q gone).σ), (q.n ≤ (4 : Nat) ∧ ∀ (j : Nat), j < q.n → rgtK (q.g j) = true ∧ shtK (q.g j) < (2000 : Nat)) ∧ true = true ∧ XV.sl 1 18 0 (wnN q gone x.i) = XV.sl 1 18 0 (wnN q gone q.n) ∧ ((XV.fz (locN (remTb (tbS q x.i) gone)) 18 fun (j : Nat) => [X8 ((locH (remTb (tbS q x.i) gone) j).a 0), X8 ((locH (remTb (tbS q x.i) gone) j).a 1), X8 ((locH (remTb (tbS q x.i) gone) j).a 2), X8 ((locH (remTb (tbS q x.i) gone) j).a 3), X8 ((locH (remTb (tbS q x.i) gone) j).a 4), X8 ((locH (remTb (tbS q x.i) gone) j).a 5), X8 ((locH (remTb (tbS q x.i) gone) j).a 6), X8 ((locH (remTb (tbS q x.i) gone) j).a 7), X8 ((locH (remTb (tbS q x.i) gone) j).a 8), X8 ((locH (remTb (tbS q x.i) gone) j).a 9), X8 ((locH (remTb (tbS q x.i) gone) j).a 10), X8 ((locH (remTb (tbS q x.i) gone) j).a 11), X8 ((locH (remTb (tbS q x.i) gone) j).a 12), X8 ((locH (remTb (tbS q x.i) gone) j).a 13), X8 ((locH (remTb (tbS q x.i) gone) j).a 14), X8 ((locH (remTb (tbS q x.i) gone) j).a 15), XB ((locH (remTb (tbS q x.i) gone) j).d), XB ((locH (remTb (tbS q x.i) gone) j).h)]) = XV.fz (locN (TL q gone)) 18 fun (j : Nat) => [X8 ((locH (TL q gone) j).a 0), X8 ((locH (TL q gone) j).a 1), X8 ((locH (TL q gone) j).a 2), X8 ((locH (TL q gone) j).a 3), X8 ((locH (TL q gone) j).a 4), X8 ((locH (TL q gone) j).a 5), X8 ((locH (TL q gone) j).a 6), X8 ((locH (TL q gone) j).a 7), X8 ((locH (TL q gone) j).a 8), X8 ((locH (TL q gone) j).a 9), X8 ((locH (TL q gone) j).a 10), X8 ((locH (TL q gone) j).a 11), X8 ((locH (TL q gone) j).a 12), X8 ((locH (TL q gone) j).a 13), X8 ((locH (TL q gone) j).a 14), X8 ((locH (TL q gone) j).a 15), XB ((locH (TL q gone) j).d), XB ((locH (TL q gone) j).h)]) ∧ (((70 : TypeId) = (70 : TypeId) ∧ true = true) ∧ (remTb (tbS q x.i) gone).l0.live = (TL q gone).l0.live ∧ (remTb (tbS q x.i) gone).l0.gen = (TL q gone).l0.gen ∧ ((XV.fz (remTb (tbS q x.i) gone).l0.dom.n 1 fun (j : Nat) => [XT ((remTb (tbS q x.i) gone).l0.dom.g j)]) = XV.fz (TL q gone).l0.dom.n 1 fun (j : Nat) => [XT ((TL q gone).l0.dom.g j)]) ∧ (remTb (tbS q x.i) gone).l0.dft = (TL q gone).l0.dft ∧ (remTb (tbS q x.i) gone).l0.ll = (TL q gone).l0.ll ∧ XV.fz (remTb (tbS q x.i) gone).l0.srv.n 16 (remTb (tbS q x.i) gone).l0.srv.g = XV.fz (TL q gone).l0.srv.n 16 (TL q gone).l0.srv.g ∧ XV.fz (remTb (tbS q x.i) gone).l0.loc.n 18 (remTb (tbS q x.i) gone).l0.loc.g = XV.fz (TL q gone).l0.loc.n 18 (TL q gone).l0.loc.g ∧ (remTb (tbS q x.i) gone).l1.live = (TL q gone).l1.live ∧ (remTb (tbS q x.i) gone).l1.gen = (TL q gone).l1.gen ∧ ((XV.fz (remTb (tbS q x.i) gone).l1.dom.n 1 fun (j : Nat) => [XT ((remTb (tbS q x.i) gone).l1.dom.g j)]) = XV.fz (TL q gone).l1.dom.n 1 fun (j : Nat) => [XT ((TL q gone).l1.dom.g j)]) ∧ (remTb (tbS q x.i) gone).l1.dft = (TL q gone).l1.dft ∧ (remTb (tbS q x.i) gone).l1.ll = (TL q gone).l1.ll ∧ XV.fz (remTb (tbS q x.i) gone).l1.srv.n 16 (remTb (tbS q x.i) gone).l1.srv.g = XV.fz (TL q gone).l1.srv.n 16 (TL q gone).l1.srv.g ∧ XV.fz (remTb (tbS q x.i) gone).l1.loc.n 18 (remTb (tbS q x.i) gone).l1.loc.g = XV.fz (TL q gone).l1.loc.n 18 (TL q gone).l1.loc.g ∧ (remTb (tbS q x.i) gone).l2.live = (TL q gone).l2.live ∧ (remTb (tbS q x.i) gone).l2.gen = (TL q gone).l2.gen ∧ ((XV.fz (remTb (tbS q x.i) gone).l2.dom.n 1 fun (j : Nat) => [XT ((remTb (tbS q x.i) gone).l2.dom.g j)]) = XV.fz (TL q gone).l2.dom.n 1 fun (j : Nat) => [XT ((TL q gone).l2.dom.g j)]) ∧ (remTb (tbS q x.i) gone).l2.dft = (TL q gone).l2.dft ∧ (remTb (tbS q x.i) gone).l2.ll = (TL q gone).l2.ll ∧ XV.fz (remTb (tbS q x.i) gone).l2.srv.n 16 (remTb (tbS q x.i) gone).l2.srv.g = XV.fz (TL q gone).l2.srv.n 16 (TL q gone).l2.srv.g ∧ XV.fz (remTb (tbS q x.i) gone).l2.loc.n 18 (remTb (tbS q x.i) gone).l2.loc.g = XV.fz (TL q gone).l2.loc.n 18 (TL q gone).l2.loc.g ∧ (remTb (tbS q x.i) gone).l3.live = (TL q gone).l3.live ∧ (remTb (tbS q x.i) gone).l3.gen = (TL q gone).l3.gen ∧ ((XV.fz (remTb (tbS q x.i) gone).l3.dom.n 1 fun (j : Nat) => [XT ((remTb (tbS q x.i) gone).l3.dom.g j)]) = XV.fz (TL q gone).l3.dom.n 1 fun (j : Nat) => [XT ((TL q gone).l3.dom.g j)]) ∧ (remTb (tbS q x.i) gone).l3.dft = (TL q gone).l3.dft ∧ (remTb (tbS q x.i) gone).l3.ll = (TL q gone).l3.ll ∧ XV.fz (remTb (tbS q x.i) gone).l3.srv.n 16 (remTb (tbS q x.i) gone).l3.srv.g = XV.fz (TL q gone).l3.srv.n 16 (TL q gone).l3.srv.g ∧ XV.fz (remTb (tbS q x.i) gone).l3.loc.n 18 (remTb (tbS q x.i) gone).l3.loc.g = XV.fz (TL q gone).l3.loc.n 18 (TL q gone).l3.loc.g ∧ XV.top = XV.top ∧ XV.top = XV.top ∧ XV.top = XV.top ∧ XV.top = XV.top ∧ (remTb (tbS q x.i) gone).g = (TL q gone).g ∧ True) ∧ (((46 : TypeId) = (46 : TypeId) ∧ true = true ∧ (18 : Nat) = (18 : Nat)) ∧ wnN q gone x.i = wnN q gone q.n ∧ ∀ (j : Nat), j < wnN q gone x.i → wnG q gone x.i j = wnG q gone q.n j) ∧ True) ∧ ∀ (x : IL), (q.n ≤ (4 : Nat) ∧ ∀ (j : Nat), j < q.n → rgtK (q.g j) = true ∧ shtK (q.g j) < (2000 : Nat)) → (((↑(locN (TL q gone)) : Int) != (↑(wnN q gone q.n) : Int)) = true → false = true) ∧ (((↑(locN (TL q gone)) : Int) != (↑(wnN q gone q.n) : Int)) = false → (∃ (x : (lkD q gone).σ), (x.i ≤ locN (TL q gone) ∧ locN (TL q gone) ≤ (16 : Nat)) ∧ true = true ∧ XV.sl 1 18 0 (wnN q gone q.n) = XV.sl 1 18 0 (locN (TL q gone)) ∧ ((XV.fz (locN (TL q gone)) 18 fun (j : Nat) => [X8 ((locH (TL q gone) j).a 0), X8 ((locH (TL q gone) j).a 1), X8 ((locH (TL q gone) j).a 2), X8 ((locH (TL q gone) j).a 3), X8 ((locH (TL q gone) j).a 4), X8 ((locH (TL q gone) j).a 5), X8 ((locH (TL q gone) j).a 6), X8 ((locH (TL q gone) j).a 7), X8 ((locH (TL q gone) j).a 8), X8 ((locH (TL q gone) j).a 9), X8 ((locH (TL q gone) j).a 10), X8 ((locH (TL q gone) j).a 11), X8 ((locH (TL q gone) j).a 12), X8 ((locH (TL q gone) j).a 13), X8 ((locH (TL q gone) j).a 14), X8 ((locH (TL q gone) j).a 15), XB ((locH (TL q gone) j).d), XB ((locH (TL q gone) j).h)]) = XV.fz (locN (TL q gone)) 18 fun (j : Nat) => [X8 ((locH (TL q gone) j).a 0), X8 ((locH (TL q gone) j).a 1), X8 ((locH (TL q gone) j).a 2), X8 ((locH (TL q gone) j).a 3), X8 ((locH (TL q gone) j).a 4), X8 ((locH (TL q gone) j).a 5), X8 ((locH (TL q gone) j).a 6), X8 ((locH (TL q gone) j).a 7), X8 ((locH (TL q gone) j).a 8), X8 ((locH (TL q gone) j).a 9), X8 ((locH (TL q gone) j).a 10), X8 ((locH (TL q gone) j).a 11), X8 ((locH (TL q gone) j).a 12), X8 ((locH (TL q gone) j).a 13), X8 ((locH (TL q gone) j).a 14), X8 ((locH (TL q gone) j).a 15), XB ((locH (TL q gone) j).d), XB ((locH (TL q gone) j).h)]) ∧ (↑(locN (TL q gone)) : Int) = (↑(locN (TL q gone)) : Int) ∧ (0 : Int) = (↑x.i : Int) ∧ (((46 : TypeId) = (46 : TypeId) ∧ true = true ∧ (18 : Nat) = (18 : Nat)) ∧ wnN q gone q.n = locN (TL q gone) ∧ ∀ (j : Nat), j < wnN q gone q.n → wnG q gone q.n j = [X8 ((locH (TL q gone) j).a 0), X8 ((locH (TL q gone) j).a 1), X8 ((locH (TL q gone) j).a 2), X8 ((locH (TL q gone) j).a 3), X8 ((locH (TL q gone) j).a 4), X8 ((locH (TL q gone) j).a 5), X8 ((locH (TL q gone) j).a 6), X8 ((locH (TL q gone) j).a 7), X8 ((locH (TL q gone) j).a 8), X8 ((locH (TL q gone) j).a 9), X8 ((locH (TL q gone) j).a 10), X8 ((locH (TL q gone) j).a 11), X8 ((locH (TL q gone) j).a 12), X8 ((locH (TL q gone) j).a 13), X8 ((locH (TL q gone) j).a 14), X8 ((locH (TL q gone) j).a 15), XB ((locH (TL q gone) j).d), XB ((locH (TL q gone) j).h)]) ∧ True) ∧ ∀ (x : IL), x.i ≤ locN (TL q gone) ∧ locN (TL q gone) ≤ (16 : Nat) → (decide ((↑x.i : Int) < (↑(locN (TL q gone)) : Int)) = true → (0 : Int) ≤ (↑x.i : Int) ∧ (↑x.i : Int) < (↑(locN (TL q gone)) : Int) ∧ (0 : Int) ≤ (↑x.i : Int) ∧ (↑x.i : Int) < (↑(locN (TL q gone)) : Int) ∧ (0 : Nat) + (↑x.i : Int).toNat < locN (TL q gone) ∧ ((!((locH (TL q gone) (↑x.i : Int).toNat).a 0 == (locH (TL q gone) ((0 : Nat) + (↑x.i : Int).toNat)).a 0 && ((locH (TL q gone) (↑x.i : Int).toNat).a 1 == (locH (TL q gone) ((0 : Nat) + (↑x.i : Int).toNat)).a 1 && ((locH (TL q gone) (↑x.i : Int).toNat).a 2 == (locH (TL q gone) ((0 : Nat) + (↑x.i : Int).toNat)).a 2 && ((locH (TL q gone) (↑x.i : Int).toNat).a 3 == (locH (TL q gone) ((0 : Nat) + (↑x.i : Int).toNat)).a 3 && ((locH (TL q gone) (↑x.i : Int).toNat).a 4 == (locH (TL q gone) ((0 : Nat) + (↑x.i : Int).toNat)).a 4 && ((locH (TL q gone) (↑x.i : Int).toNat).a 5 == (locH (TL q gone) ((0 : Nat) + (↑x.i : Int).toNat)).a 5 && ((locH (TL q gone) (↑x.i : Int).toNat).a 6 == (locH (TL q gone) ((0 : Nat) + (↑x.i : Int).toNat)).a 6 && ((locH (TL q gone) (↑x.i : Int).toNat).a 7 == (locH (TL q gone) ((0 : Nat) + (↑x.i : Int).toNat)).a 7 && ((locH (TL q gone) (↑x.i : Int).toNat).a 8 == (locH (TL q gone) ((0 : Nat) + (↑x.i : Int).toNat)).a 8 && ((locH (TL q gone) (↑x.i : Int).toNat).a 9 == (locH (TL q gone) ((0 : Nat) + (↑x.i : Int).toNat)).a 9 && ((locH (TL q gone) (↑x.i : Int).toNat).a 10 == (locH (TL q gone) ((0 : Nat) + (↑x.i : Int).toNat)).a 10 && ((locH (TL q gone) (↑x.i : Int).toNat).a 11 == (locH (TL q gone) ((0 : Nat) + (↑x.i : Int).toNat)).a 11 && ((locH (TL q gone) (↑x.i : Int).toNat).a 12 == (locH (TL q gone) ((0 : Nat) + (↑x.i : Int).toNat)).a 12 && ((locH (TL q gone) (↑x.i : Int).toNat).a 13 == (locH (TL q gone) ((0 : Nat) + (↑x.i : Int).toNat)).a 13 && ((locH (TL q gone) (↑x.i : Int).toNat).a 14 == (locH (TL q gone) ((0 : Nat) + (↑x.i : Int).toNat)).a 14 && ((locH (TL q gone) (↑x.i : Int).toNat).a 15 == (locH (TL q gone) ((0 : Nat) + (↑x.i : Int).toNat)).a 15 && true))))))))))))))) && ((locH (TL q gone) (↑x.i : Int).toNat).d == (locH (TL q gone) ((0 : Nat) + (↑x.i : Int).toNat)).d && ((locH (TL q gone) (↑x.i : Int).toNat).h == (locH (TL q gone) ((0 : Nat) + (↑x.i : Int).toNat)).h && true)))) = true → false = true) ∧ ((!((locH (TL q gone) (↑x.i : Int).toNat).a 0 == (locH (TL q gone) ((0 : Nat) + (↑x.i : Int).toNat)).a 0 && ((locH (TL q gone) (↑x.i : Int).toNat).a 1 == (locH (TL q gone) ((0 : Nat) + (↑x.i : Int).toNat)).a 1 && ((locH (TL q gone) (↑x.i : Int).toNat).a 2 == (locH (TL q gone) ((0 : Nat) + (↑x.i : Int).toNat)).a 2 && ((locH (TL q gone) (↑x.i : Int).toNat).a 3 == (locH (TL q gone) ((0 : Nat) + (↑x.i : Int).toNat)).a 3 && ((locH (TL q gone) (↑x.i : Int).toNat).a 4 == (locH (TL q gone) ((0 : Nat) + (↑x.i : Int).toNat)).a 4 && ((locH (TL q gone) (↑x.i : Int).toNat).a 5 == (locH (TL q gone) ((0 : Nat) + (↑x.i : Int).toNat)).a 5 && ((locH (TL q gone) (↑x.i : Int).toNat).a 6 == (locH (TL q gone) ((0 : Nat) + (↑x.i : Int).toNat)).a 6 && ((locH (TL q gone) (↑x.i : Int).toNat).a 7 == (locH (TL q gone) ((0 : Nat) + (↑x.i : Int).toNat)).a 7 && ((locH (TL q gone) (↑x.i : Int).toNat).a 8 == (locH (TL q gone) ((0 : Nat) + (↑x.i : Int).toNat)).a 8 && ((locH (TL q gone) (↑x.i : Int).toNat).a 9 == (locH (TL q gone) ((0 : Nat) + (↑x.i : Int).toNat)).a 9 && ((locH (TL q gone) (↑x.i : Int).toNat).a 10 == (locH (TL q gone) ((0 : Nat) + (↑x.i : Int).toNat)).a 10 && ((locH (TL q gone) (↑x.i : Int).toNat).a 11 == (locH (TL q gone) ((0 : Nat) + (↑x.i : Int).toNat)).a 11 && ((locH (TL q gone) (↑x.i : Int).toNat).a 12 == (locH (TL q gone) ((0 : Nat) + (↑x.i : Int).toNat)).a 12 && ((locH (TL q gone) (↑x.i : Int).toNat).a 13 == (locH (TL q gone) ((0 : Nat) + (↑x.i : Int).toNat)).a 13 && ((locH (TL q gone) (↑x.i : Int).toNat).a 14 == (locH (TL q gone) ((0 : Nat) + (↑x.i : Int).toNat)).a 14 && ((locH (TL q gone) (↑x.i : Int).toNat).a 15 == (locH (TL q gone) ((0 : Nat) + (↑x.i : Int).toNat)).a 15 && true))))))))))))))) && ((locH (TL q gone) (↑x.i : Int).toNat).d == (locH (TL q gone) ((0 : Nat) + (↑x.i : Int).toNat)).d && ((locH (TL q gone) (↑x.i : Int).toNat).h == (locH (TL q gone) ((0 : Nat) + (↑x.i : Int).toNat)).h && true)))) = false → in64 ((↑x.i : Int) + (1 : Int)) ∧ ∃ (x' : (lkD q gone).σ), (x'.i ≤ locN (TL q gone) ∧ locN (TL q gone) ≤ (16 : Nat)) ∧ locN (TL q gone) - x'.i < locN (TL q gone) - x.i ∧ true = true ∧ XV.sl 1 18 0 (locN (TL q gone)) = XV.sl 1 18 0 (locN (TL q gone)) ∧ ((XV.fz (locN (TL q gone)) 18 fun (j : Nat) => [X8 ((locH (TL q gone) j).a 0), X8 ((locH (TL q gone) j).a 1), X8 ((locH (TL q gone) j).a 2), X8 ((locH (TL q gone) j).a 3), X8 ((locH (TL q gone) j).a 4), X8 ((locH (TL q gone) j).a 5), X8 ((locH (TL q gone) j).a 6), X8 ((locH (TL q gone) j).a 7), X8 ((locH (TL q gone) j).a 8), X8 ((locH (TL q gone) j).a 9), X8 ((locH (TL q gone) j).a 10), X8 ((locH (TL q gone) j).a 11), X8 ((locH (TL q gone) j).a 12), X8 ((locH (TL q gone) j).a 13), X8 ((locH (TL q gone) j).a 14), X8 ((locH (TL q gone) j).a 15), XB ((locH (TL q gone) j).d), XB ((locH (TL q gone) j).h)]) = XV.fz (locN (TL q gone)) 18 fun (j : Nat) => [X8 ((locH (TL q gone) j).a 0), X8 ((locH (TL q gone) j).a 1), X8 ((locH (TL q gone) j).a 2), X8 ((locH (TL q gone) j).a 3), X8 ((locH (TL q gone) j).a 4), X8 ((locH (TL q gone) j).a 5), X8 ((locH (TL q gone) j).a 6), X8 ((locH (TL q gone) j).a 7), X8 ((locH (TL q gone) j).a 8), X8 ((locH (TL q gone) j).a 9), X8 ((locH (TL q gone) j).a 10), X8 ((locH (TL q gone) j).a 11), X8 ((locH (TL q gone) j).a 12), X8 ((locH (TL q gone) j).a 13), X8 ((locH (TL q gone) j).a 14), X8 ((locH (TL q gone) j).a 15), XB ((locH (TL q gone) j).d), XB ((locH (TL q gone) j).h)]) ∧ (↑(locN (TL q gone)) : Int) = (↑(locN (TL q gone)) : Int) ∧ (↑x.i : Int) + (1 : Int) = (↑x'.i : Int) ∧ (((46 : TypeId) = (46 : TypeId) ∧ true = true ∧ (18 : Nat) = (18 : Nat)) ∧ locN (TL q gone) = locN (TL q gone) ∧ ∀ (j : Nat), j < locN (TL q gone) → [X8 ((locH (TL q gone) j).a 0), X8 ((locH (TL q gone) j).a 1), X8 ((locH (TL q gone) j).a 2), X8 ((locH (TL q gone) j).a 3), X8 ((locH (TL q gone) j).a 4), X8 ((locH (TL q gone) j).a 5), X8 ((locH (TL q gone) j).a 6), X8 ((locH (TL q gone) j).a 7), X8 ((locH (TL q gone) j).a 8), X8 ((locH (TL q gone) j).a 9), X8 ((locH (TL q gone) j).a 10), X8 ((locH (TL q gone) j).a 11), X8 ((locH (TL q gone) j).a 12), X8 ((locH (TL q gone) j).a 13), X8 ((locH (TL q gone) j).a 14), X8 ((locH (TL q gone) j).a 15), XB ((locH (TL q gone) j).d), XB ((locH (TL q gone) j).h)] = [X8 ((locH (TL q gone) j).a 0), X8 ((locH (TL q gone) j).a 1), X8 ((locH (TL q gone) j).a 2), X8 ((locH (TL q gone) j).a 3), X8 ((locH (TL q gone) j).a 4), X8 ((locH (TL q gone) j).a 5), X8 ((locH (TL q gone) j).a 6), X8 ((locH (TL q gone) j).a 7), X8 ((locH (TL q gone) j).a 8), X8 ((locH (TL q gone) j).a 9), X8 ((locH (TL q gone) j).a 10), X8 ((locH (TL q gone) j).a 11), X8 ((locH (TL q gone) j).a 12), X8 ((locH (TL q gone) j).a 13), X8 ((locH (TL q gone) j).a 14), X8 ((locH (TL q gone) j).a 15), XB ((locH (TL q gone) j).d), XB ((locH (TL q gone) j).h)]) ∧ True)) ∧ (decide ((↑x.i : Int) < (↑(locN (TL q gone)) : Int)) = false → true = true)))))
theorem lkV_eq (q : Sq Lnk) (gone : Int) : lkV q gone = (funC cxLl Tryd.f5 (mkSc (lkE q gone) (bodyOf Tryd.f5)) [.fz q.n 7 fun i => lnkX (q.g i), XI gone] (XB true)) := by kernel_rfl
end Go.Proofs.YtaglpckihegmoaaDoorAv
namespace Go.Proofs.YtaglpckihegmoaaDoorAv
open Go Go.RowKit
def setK (q : Sq Lnk) (i j : Nat) : Lnk := if j < i then aliveK (q.g j) (j + 1) else zLnk
def tbE (q : Sq Lnk) (i : Nat) : LTab := ⟨setK q i 0, setK q i 1, setK q i 2, setK q i 3, i⟩
theorem tbE_put (q : Sq Lnk) {i : Nat} (hi : i < 4) : putT (tbE q i) i (aliveK (q.g i) (i + 1)) (i + 1) = tbE q (i + 1) := by
 match i, hi with
 | 0, _ => rfl
 | 1, _ => rfl
 | 2, _ => rfl
 | 3, _ => rfl
 | i + 4, h => omega
theorem inB_nat {i : Nat} (h : i < 4) : inB i = true := by
 rw [inB, decide_eq_true (show (0 : Int) ≤ i by omega), decide_eq_true (show (i : Int) < 4 by omega)]
 rfl
theorem tbS_eq (q : Sq Lnk) : ∀ i, i ≤ 4 → (∀ j, j < i → rgtK (q.g j) = true) → tbS q i = tbE q i
 | 0, _, _ => rfl
 | i + 1, hi, h => by
  rw [tbS, tbS_eq q i (by omega) fun j hj => h j (by omega), setTb_in _ (inB_nat (by omega)) (h i (by omega))]
  exact tbE_put q (by omega)
def lefK (q : Sq Lnk) (gone : Int) (j : Nat) : Lnk := if j < q.n ∧ (j : Int) ≠ gone then aliveK (q.g j) (j + 1) else zLnk
theorem set_left {q : Sq Lnk} {gone : Int} {j : Nat} (h : (j : Int) ≠ gone) : setK q q.n j = lefK q gone j := by
 unfold setK lefK
 by_cases k : j < q.n
 ·rw [if_pos k, if_pos ⟨k, h⟩]
 ·rw [if_neg k, if_neg fun c => k c.1]
theorem left_gone {q : Sq Lnk} {gone : Int} {j : Nat} (h : (j : Int) = gone) : lefK q gone j = zLnk := if_neg fun c => c.2 h
theorem tbE_at (q : Sq Lnk) (i : Nat) {j : Nat} (h : j < 4) : (tbE q i).at j = setK q i j := by
 match j, h with
 | 0, _ | 1, _ | 2, _ | 3, _ => rfl
 | j + 4, h => omega
theorem tab_congr {a b c d a' b' c' d' : Lnk} {g : Int} (h0 : a = a') (h1 : b = b') (h2 : c = c') (h3 : d = d') : (⟨a, b, c, d, g⟩ : LTab) = ⟨a', b', c', d', g⟩ := by rw [h0, h1, h2, h3]
theorem lefT (q : Sq Lnk) (gone : Int) : remTb (tbE q q.n) gone = ⟨lefK q gone 0, lefK q gone 1, lefK q gone 2, lefK q gone 3, q.n⟩ := by
 cases hb : inB gone with
 | false =>
  have hg : ¬ (0 ≤ gone ∧ gone < 4) := fun k => by
   rw [inB, decide_eq_true k.1, decide_eq_true k.2] at hb
   cases hb
  rw [(rm_no (by rw [gotB, hb]; rfl)).1, tbE, set_left (gone := gone) (j := 0) (by omega), set_left (gone := gone) (j := 1) (by omega), set_left (gone := gone) (j := 2) (by omega), set_left (gone := gone) (j := 3) (by omega)]
 | true =>
  have hg : 0 ≤ gone ∧ gone < 4 := by
   rw [inB, Bool.and_eq_true] at hb
   exact ⟨of_decide_eq_true hb.1, of_decide_eq_true hb.2⟩
  obtain ⟨k, rfl⟩ : ∃ k : Nat, gone = k := ⟨gone.toNat, by omega⟩
  have hk : k < 4 := by omega
  have hgot : gotB (tbE q q.n) k = (setK q q.n k).live := by
   rw [gotB, hb, Int.toNat_natCast, tbE_at q _ hk]
   rfl
  have hz : ∀ j : Nat, j ≠ k → setK q q.n j = lefK q k j := fun j h => set_left (by omega)
  have hs : lefK q k k = zLnk := left_gone rfl
  by_cases hn : k < q.n
  ·have hl : (setK q q.n k).live = true := by rw [setK, if_pos hn]; rfl
   rw [(rm_yes (hgot.trans hl)).1]
   match k, hk, hz, hs with
   | 0, _, hz, hs => exact tab_congr hs.symm (hz 1 (by decide)) (hz 2 (by decide)) (hz 3 (by decide))
   | 1, _, hz, hs => exact tab_congr (hz 0 (by decide)) hs.symm (hz 2 (by decide)) (hz 3 (by decide))
   | 2, _, hz, hs => exact tab_congr (hz 0 (by decide)) (hz 1 (by decide)) hs.symm (hz 3 (by decide))
   | 3, _, hz, hs => exact tab_congr (hz 0 (by decide)) (hz 1 (by decide)) (hz 2 (by decide)) hs.symm
   | k + 4, h, _, _ => omega
  ·have e : setK q q.n k = zLnk := if_neg hn
   have hl : (setK q q.n k).live = false := by rw [e]; rfl
   have ha : ∀ j : Nat, setK q q.n j = lefK q k j := fun j => by
    by_cases h : j = k
    ·rw [h, e, hs]
    ·exact hz j h
   rw [(rm_no (hgot.trans hl)).1, tbE, ha, ha, ha, ha]
def cN (M : Nat → Lnk) : Nat → Nat
 | 0 => 0
 | i + 1 => cN M i + (M i).loc.n
def cG (M : Nat → Lnk) : Nat → Nat → List XV
 | 0 => fun _ => []
 | i + 1 => catF (cN M i) (cG M i) (M i).loc.g
theorem catF_lt {n j : Nat} {f g : Nat → List XV} (h : j < n) : catF n f g j = f j := by
 unfold catF
 rw [bltN, decide_eq_true h]; rfl
theorem catF_ge {n j : Nat} {f g : Nat → List XV} (h : ¬ j < n) : catF n f g j = g (j - n) := by
 unfold catF
 rw [bltN, decide_eq_false h]; rfl
theorem c_awaited (q : Sq Lnk) (gone : Int) : ∀ i, i ≤ q.n → wnN q gone i = cN (lefK q gone) i ∧ ∀ j, j < cN (lefK q gone) i → wnG q gone i j = cG (lefK q gone) i j
 | 0, _ => ⟨rfl, fun j _ => rfl⟩
 | i + 1, hi => by
  obtain ⟨h1, h2⟩ := c_awaited q gone i (by omega)
  by_cases e : (i : Int) = gone
  ·have hz := left_gone (q := q) e
   have hn : cN (lefK q gone) (i + 1) = cN (lefK q gone) i := by rw [cN, hz]; rfl
   refine ⟨by rw [wnN, if_pos e, hn, h1], fun j hj => ?_⟩
   rw [hn] at hj
   rw [wnG, if_pos e, h2 j hj, cG, catF_lt hj]
  ·have hz : lefK q gone i = aliveK (q.g i) (i + 1) := if_pos ⟨by omega, e⟩
   refine ⟨by rw [wnN, if_neg e, cN, hz, h1]; rfl, fun j hj => ?_⟩
   rw [wnG, if_neg e, cG, h1]
   by_cases k : j < cN (lefK q gone) i
   ·rw [catF_lt k, catF_lt k, h2 j k]
   ·rw [catF_ge k, catF_ge k, hz]
    rfl
theorem c_rest (q : Sq Lnk) (gone : Int) : ∀ d, cN (lefK q gone) (q.n + d) = cN (lefK q gone) q.n ∧ ∀ j, j < cN (lefK q gone) q.n → cG (lefK q gone) (q.n + d) j = cG (lefK q gone) q.n j
 | 0 => ⟨rfl, fun _ _ => rfl⟩
 | d + 1 => by
  obtain ⟨h1, h2⟩ := c_rest q gone d
  have hz : lefK q gone (q.n + d) = zLnk := if_neg fun c => by omega
  refine ⟨by rw [← Nat.add_assoc, cN, hz, h1]; rfl, fun j hj => ?_⟩
  rw [← Nat.add_assoc, cG, catF_lt (by rw [h1]; exact hj), h2 j hj]
theorem c_typed {M : Nat → Lnk} (h : ∀ k j, j < (M k).loc.n → ∃ c, (M k).loc.g j = lclX c) : ∀ i j, j < cN M i → ∃ c, cG M i j = lclX c
 | 0, j, hj => absurd hj (Nat.not_lt_zero _)
 | i + 1, j, hj => by
  rw [cG]
  by_cases k : j < cN M i
  ·rw [catF_lt k]; exact c_typed h i j k
  ·rw [catF_ge k]; exact h i _ (by rw [cN] at hj; omega)
theorem cN_le {M : Nat → Lnk} (h : ∀ k, (M k).loc.n ≤ 4) : ∀ i, cN M i ≤ 4 * i
 | 0 => Nat.le_refl _
 | i + 1 => by
  have := cN_le h i
  have := h i
  rw [cN]
  omega
structure Lok (q : Sq Lnk) : Prop where
 n : q.n ≤ 4
 r : ∀ j, j < q.n → rgtK (q.g j) = true ∧ shtK (q.g j) < 2000
 c : ∀ j, j < q.n → ∃ c : Nat → Lcl, (q.g j).loc.g = fun k => lclX (c k)
theorem loc4 {k : Lnk} (h : rgtK k = true) : k.loc.n ≤ 4 := by
 have := (Bool.and_eq_true_iff.1 h).1
 rw [Bool.and_eq_true, Bool.and_eq_true] at this
 exact of_decide_eq_true this.2.2
theorem Lok.four {q : Sq Lnk} (h : Lok q) (gone : Int) (k : Nat) : (lefK q gone k).loc.n ≤ 4 := by
 unfold lefK
 split
 ·rename_i c; exact loc4 (h.r k c.1).1
 ·exact Nat.zero_le _
theorem Lok.typed {q : Sq Lnk} (h : Lok q) (gone : Int) (k j : Nat) (hj : j < (lefK q gone k).loc.n) : ∃ c, (lefK q gone k).loc.g j = lclX c := by
 unfold lefK at hj ⊢
 split
 ·rename_i c
  obtain ⟨f, hf⟩ := h.c k c.1
  exact ⟨f j, congrFun hf j⟩
 ·rename_i c; rw [if_neg c] at hj; exact absurd hj (Nat.not_lt_zero _)
theorem Lok.T {q : Sq Lnk} (h : Lok q) (gone : Int) : TL q gone = ⟨lefK q gone 0, lefK q gone 1, lefK q gone 2, lefK q gone 3, q.n⟩ := by
 unfold TL
 rw [tbS_eq q q.n h.n fun j hj => (h.r j hj).1, lefT]
theorem Lok.N {q : Sq Lnk} (h : Lok q) (gone : Int) : locN (TL q gone) = cN (lefK q gone) 4 ∧ locG (TL q gone) = cG (lefK q gone) 4 := by
 rw [h.T gone]
 exact ⟨rfl, rfl⟩
theorem Lok.all {q : Sq Lnk} (h : Lok q) (gone : Int) : locN (TL q gone) ≤ 16 ∧ locN (TL q gone) = wnN q gone q.n ∧ (∀ j, j < locN (TL q gone) → wnG q gone q.n j = lclX (locH (TL q gone) j)) ∧ locOk (TL q gone) := by
 obtain ⟨n1, n2⟩ := h.N gone
 obtain ⟨a1, a2⟩ := c_awaited q gone q.n (Nat.le_refl _)
 obtain ⟨r1, r2⟩ := c_rest q gone (4 - q.n)
 have h4 : q.n + (4 - q.n) = 4 := by have := h.n; omega
 rw [h4] at r1 r2
 have ty : ∀ j, j < locN (TL q gone) → locG (TL q gone) j = lclX (locH (TL q gone) j) := fun j hj => by
  unfold locH
  rw [n2]
  obtain ⟨c, hc⟩ := c_typed (h.typed gone) 4 j (n1 ▸ hj)
  rw [hc, lclD_X]
 refine ⟨by rw [n1]; exact cN_le (h.four gone) 4, by rw [n1, r1, a1], fun j hj => ?_, ?_, ty⟩
 ·rw [← ty j hj, n2]
  have hj' : j < cN (lefK q gone) q.n := by rw [← r1, ← n1]; exact hj
  rw [a2 j hj', r2 j hj']
 ·rw [h.T gone]
  exact ⟨h.four gone 0, h.four gone 1, h.four gone 2, h.four gone 3⟩
theorem wnN_le {q : Sq Lnk} (gone : Int) : ∀ i, (∀ j, j < i → (q.g j).loc.n ≤ 4) → wnN q gone i ≤ 4 * i
 | 0, _ => Nat.le_refl _
 | i + 1, h => by
  have := wnN_le gone i fun j hj => h j (by omega)
  have := h i (by omega)
  rw [wnN]
  split <;> omega
theorem lk_v (q : Sq Lnk) (gone : Int) (h1 : ∀ j, j < q.n → (q.g j).dom.n ≤ 4611686018427387904 ∧ ∀ k, k < (q.g j).dom.n → ((q.g j).dom.g k).size ≤ 140737488351232) (h2 : ∀ j, j < q.n → ∃ c : Nat → Lcl, (q.g j).loc.g = fun k => lclX (c k)) : lkV q gone := by
 unfold lkV
 refine ⟨fun h => Bool.noConfusion h, fun _ => ⟨fun _ => rfl, fun hq => ?_⟩⟩
 have hq : q.n ≤ 4 := by
  have := of_decide_eq_false hq
  omega
 refine ⟨⟨⟨0⟩, ⟨Nat.zero_le _, hq, fun j hj => absurd hj (Nat.not_lt_zero _)⟩, by and_intros <;> first | rfl | trivial | exact fun _ h => absurd h (Nat.not_lt_zero _)⟩, ?_⟩
 rintro ⟨i⟩ ⟨hi, -, hr⟩
 have hi : i ≤ q.n := hi
 have hr : ∀ j, j < i → rgtK (q.g j) = true ∧ shtK (q.g j) < 2000 := hr
 dsimp only
 rw [Int.toNat_natCast]
 refine ⟨fun hl => ?_, fun hl => ?_⟩
 ·have hl : i < q.n := by
   have := of_decide_eq_true hl
   omega
  refine ⟨by omega, by omega, fun _ _ => rfl, (h1 i hl).1, fun _ _ _ => rfl, fun _ => (h1 i hl).1, fun _ => rfl, fun hs => ?_⟩
  rw [Bool.or_eq_false_iff, Bool.not_eq_false', Bool.not_eq_false', decide_eq_true_eq] at hs
  obtain ⟨hS, hR⟩ := hs
  rw [shwK_eq hR (h1 i hl).2] at hS
  have hS : shtK (q.g i) < 2000 := by omega
  obtain ⟨hd, hsum⟩ := sht_ok hS
  have hg : (tbS q i).g = i := by rw [tbS_eq q i (by omega) fun j hj => (hr j hj).1]; rfl
  have hn0 : setN i (q.g i) = 0 := setN_ok (inB_nat (by omega)) hR
  have hr' : ∀ j, j < i + 1 → rgtK (q.g j) = true ∧ shtK (q.g j) < 2000 := fun j hj => by
   by_cases e : j = i
   ·rw [e]; exact ⟨hR, hS⟩
   ·exact hr j (by omega)
  refine ⟨fun _ _ => rfl, fun _ _ => rfl, fun _ _ => rfl, fun _ _ => rfl, fun _ _ => rfl, hd.1, ⟨by omega, by omega⟩, fun h => ?_, fun _ => ⟨fun hne => ?_, fun hne => ?_⟩⟩
  ·rw [hn0] at h; cases h
  ·have hne : ¬ (i : Int) = gone := by simpa using hne
   have hw := loc4 hR
   have hwn : wnN q gone i ≤ 16 := by
    have := wnN_le (q := q) gone i fun j hj => loc4 (hr j hj).1
    omega
   refine ⟨rfl, by omega, by omega, by unfold in64; omega, ⟨i + 1⟩, ⟨hl, hq, hr'⟩, by show _ - (i + 1) < _ - i; omega, ?_⟩
   have e1 : wnN q gone (i + 1) = wnN q gone i + (q.g i).loc.n := by rw [wnN, if_neg hne]
   have e2 : wnG q gone (i + 1) = catF (wnN q gone i) (wnG q gone i) (q.g i).loc.g := by rw [wnG, if_neg hne]
   dsimp only
   rw [e1, e2]
   and_intros <;> first | rfl | trivial | exact fun _ _ => rfl | exact fun _ _ => brec _ _ _
  ·have hne : (i : Int) = gone := by simpa using hne
   refine ⟨by unfold in64; omega, ⟨i + 1⟩, ⟨hl, hq, hr'⟩, by show _ - (i + 1) < _ - i; omega, ?_⟩
   have e1 : wnN q gone (i + 1) = wnN q gone i := by rw [wnN, if_pos hne]
   have e2 : wnG q gone (i + 1) = wnG q gone i := by rw [wnG, if_pos hne]
   dsimp only
   rw [e1, e2]
   and_intros <;> first | rfl | trivial | exact fun _ _ => rfl
 ·obtain rfl : i = q.n := by
   have := of_decide_eq_false hl
   omega
  have ok : Lok q := ⟨hq, hr, h2⟩
  obtain ⟨a1, a2, a3, a4⟩ := ok.all gone
  have eT : remTb (tbS q q.n) gone = TL q gone := rfl
  rw [eT]
  refine ⟨fun _ _ => rfl, fun _ _ => rfl, fun _ _ => rfl, fun _ _ => rfl, ⟨fun _ _ => rfl, fun _ _ => rfl, fun _ _ => rfl, fun _ _ => rfl, a4, ⟨0⟩, ⟨hq, hr⟩, by and_intros <;> first | rfl | trivial | exact fun _ _ => rfl⟩, fun _ _ => ⟨fun h => ?_, fun _ => ⟨⟨⟨0⟩, ⟨Nat.zero_le _, a1⟩, ?_⟩, ?_⟩⟩⟩
  ·rw [a2] at h; simp at h
  ·rw [← a2]
   and_intros <;> first | rfl | trivial | exact a3
  ·rintro ⟨j⟩ ⟨hj, -⟩
   have hj : j ≤ locN (TL q gone) := hj
   dsimp only
   rw [Int.toNat_natCast]
   refine ⟨fun hl => ?_, fun _ => rfl⟩
   have hl : j < locN (TL q gone) := by
    have := of_decide_eq_true hl
    omega
   refine ⟨by omega, by omega, by omega, by omega, by omega, fun h => ?_, fun _ => ⟨by unfold in64; omega, ⟨j + 1⟩, ⟨hl, a1⟩, by show _ - (j + 1) < _ - j; omega, ?_⟩⟩
   ·rw [Nat.zero_add] at h; simp at h
   ·and_intros <;> first | rfl | trivial | exact fun _ _ => rfl
theorem cxLl_ok : cxLl.ok Tryd.prog := Cx.ok.setV (((((((cx0_ok.addC rw_ok).addC sh_ok).addC fit_ok).addL lc_ok).addL rem_ok).addL set_ok).addL nw_ok) true
def lnkOf (l : List XV) : Lnk := ⟨boolD (xget l 0), intD (xget l 1), match xget l 2 with
 | .fz n _ f => ⟨n, fun j => strD (xget (f j) 0)⟩
 | _ => ⟨0, fun _ => ⟨#[]⟩⟩, boolD (xget l 3), boolD (xget l 4), match xget l 5 with
 | .fz n _ f => ⟨n, f⟩
 | _ => ⟨0, fun _ => []⟩, match xget l 6 with
 | .fz n _ f => ⟨n, f⟩
 | _ => ⟨0, fun _ => []⟩⟩
def dLks : Dc (Sq Lnk) := dSl 7 lnkOf lnkX zLnk
theorem dLks_ok : DcOk dLks := dSl_ok
theorem lks_ok : CTok Tryd.prog 5 (C2 dLks dInt (fun q _ => [∀ j, j < q.n → (q.g j).dom.n ≤ 4611686018427387904 ∧ ∀ k, k < (q.g j).dom.n → ((q.g j).dom.g k).size ≤ 140737488351232, ∀ j, j < q.n → ∃ c : Nat → Lcl, (q.g j).loc.g = fun k => lclX (c k)]) fun _ _ => XB true) := C2_ok cxLl_ok Tryd.func5 rfl (by decide) dLks_ok dInt_eq.ok (by kernel_rfl) (fun _ _ => rfl) fun q n hc => exv (lkV_eq q n) (lk_v q n (hc _ (.head _)) (hc _ (.tail _ (.head _))))
end Go.Proofs.YtaglpckihegmoaaDoorAv
namespace Go.Proofs.YtaglpckihegmoaaDoorAv
open Go Go.RowKit
theorem linkLocals_J (L : GH) (q : Sq Lnk) (n : Int) (hn : q.n ≤ 1466015503658) (hq : ∀ i, i < q.n → (q.g i).Fit) (hw : (Lit.int .i64 n).wf = true) : JF Tryd.prog 5 [toAV (.fz q.n 7 fun i => lnkX (q.g i)), intAV n] L (fun v L' => v = boolAV true ∧ L' = L) := by
 refine law_J lks_ok (xs := [.fz q.n 7 fun i => lnkX (q.g i), XI n]) (cs := _) rfl ?_ ?_ L
 ·intro p hp
  rcases List.mem_cons.1 (show p ∈ [_, _, _] from hp) with rfl | hp
  ·exact fun i _ => rfl
  ·rcases List.mem_cons.1 hp with rfl | hp
   ·exact fun j hj => ⟨Nat.le_trans (hq j hj).1 (by decide), (hq j hj).2.1⟩
   ·obtain rfl := List.mem_singleton.1 hp
    exact fun j hj => (hq j hj).2.2
 ·simp only [RVL]
  exact ⟨rfl, by simp [RV, intAV], trivial⟩
end Go.Proofs.YtaglpckihegmoaaDoorAv
