/- Own texts, put together. -/
import Derived.Test.YtaglpckihegmoaaDoorLnD
import Derived.WalkKit
import Derived.Deep.LoopGhost
import Derived.Laws.OwnMore
import Derived.Laws.CopyRow
import Derived.Lib.ConvBytes
import Derived.Below
import Derived.KernelRfl
import Derived.Scope
import Derived.Laws.BytesString
import Derived.DataElems
import Derived.Laws.Tables
import Derived.Laws.Cells
import Derived.OrdersIn
import Derived.Laws.StructEq
import Derived.Laws.RangeString
import Derived.Maps.RangeRun
import Derived.BigQuiet
import Derived.Test.YtaglpckihegmoaaDoorProg
import Derived.Shelf.Small.Wraps
import Derived.Shelf.Utf8.RuneCount
import Derived.Shelf.Strings.Search1
import Derived.Shelf.Strings.Search2
import Derived.Shelf.Strings.Search3
import Derived.Shelf.Strings.Count
import Derived.Shelf.LaysM
import Derived.Shelf.Strings.Shaped
import Derived.Shelf.Strings.LastIndex
import Derived.Shelf.Strings.Prefix
import Derived.Shelf.Strings.Split
import Derived.Shelf.Strings.Fold
import Derived.Shelf.Unicode.Decode
import Derived.Shelf.Strings.RuneCount
import Derived.Shelf.Unicode.DecodeSlow
import Derived.Shelf.Unicode.DecodeAny
import Derived.Shelf.Unicode.ValidAny
import Derived.Shelf.Unicode.CaseLookup
import Derived.Shelf.Unicode.CaseConvert
import Derived.OpenShut
import Derived.SliceStrings
import Derived.ChangeSlices
import Derived.SizedLaws
import Derived.Carry
import Derived.Lib.LaidTab
import Derived.Shelf.Vars
import Derived.WideKeyArr2
import Derived.Lay
import Derived.Deep.DeepHandedRow
import Derived.Test.YtaglpckihegmoaaDoorRows
import Derived.Lib.LaidU8T
import Derived.DataReads
import Derived.Lib.Replace
import Derived.RangeFuncRecord
import Derived.RangeFuncIn
set_option linter.unusedVariables false
set_option linter.unusedSimpArgs false
set_option maxRecDepth 100000
namespace Go.Proofs.YtaglpckihegmoaaDoorAv
open Go Go.RowKit
def bstN (g : Nat → ByteArray) (s : ByteArray) (b : Int) : Nat → Int
 | 0 => b
 | i + 1 => if undB s (g i) = true then imax (bstN g s b i) (cntL (g i)) else bstN g s b i
def bstT (T : LTab) (s : ByteArray) : Nat → Int
 | 0 => -1
 | k + 1 => bstN (T.at k).dom.g s (bstT T s k) (T.at k).dom.n
def useN (g : Nat → ByteArray) (s : ByteArray) (b : Int) (u : Bool) : Nat → Bool
 | 0 => u
 | i + 1 => useN g s b u i || (decide (b ≥ 0) && undB s (g i) && cntL (g i) == b)
def useK (k : Lnk) (s : ByteArray) (b : Int) : Bool := useN k.dom.g s b (decide (b < 0) && k.dft) k.dom.n
def askK (k : Lnk) (s : ByteArray) (b : Int) : Bool := k.live && useK k s b && decide (0 < k.srv.n)
def rtL (T : LTab) (s : ByteArray) (b : Int) : Nat → List Int
 | 0 => []
 | k + 1 => if askK (T.at k) s b = true then rtL T s b k ++ [(k : Int)] else rtL T s b k
def lenI (l : List Int) : Nat := l.length
def getI (l : List Int) (j : Nat) : Int := l.getD j 0
def intsF (l : List Int) : XV := .fz (lenI l) 1 fun j => [XI (getI l j)]
def cxR : Cx := { cx0 with C := [(15, undC), (29, cnlC)] }
def rows4 (T : LTab) : XV := .agg (lnkX T.l0 ++ (lnkX T.l1 ++ (lnkX T.l2 ++ lnkX T.l3)))
def rtA (T : LTab) (s : ByteArray) (e : TypeId) (ap : Bool) : Inv where
 σ := IL
 S := fun x => ⟨[(0, .ptr 0 0 0 0), (1, XT s), (5, XI (bstT T s x.i)), (19, rows4 T), (20, XI x.i)], [(0, .one e ap (tabX T))], 1, true, []⟩
 inv := fun x => x.i ≤ 4
 μ := fun x => 4 - x.i
def rtB (T : LTab) (s : ByteArray) (e : TypeId) (ap : Bool) (p : IL) : Inv where
 σ := IL
 S := fun x => ⟨[(0, .ptr 0 0 0 0), (1, XT s), (5, XI (bstN (T.at p.i).dom.g s (bstT T s p.i) x.i)), (19, rows4 T), (20, XI p.i), (24, domX (T.at p.i).dom), (25, XI (T.at p.i).dom.n), (26, XI x.i)], [(0, .one e ap (tabX T))], 1, true, []⟩
 inv := fun x => x.i ≤ (T.at p.i).dom.n ∧ p.i < 4
 μ := fun x => (T.at p.i).dom.n - x.i
def rtC (T : LTab) (s : ByteArray) (e : TypeId) (ap : Bool) (b : Int) : Inv where
 σ := IL
 S := fun x => ⟨[(1, XT s), (5, XI b), (10, .sl 1 1 0 (lenI (rtL T s b x.i))), (42, rows4 T), (43, XI x.i)], [(0, .one e ap (tabX T)), (1, .vec 3 true (lenI (rtL T s b x.i)) 1 fun j => [XI (getI (rtL T s b x.i) j)])], 2, true, []⟩
 inv := fun x => x.i ≤ 4
 μ := fun x => 4 - x.i
def rtD (T : LTab) (s : ByteArray) (e : TypeId) (ap : Bool) (b : Int) (p : IL) : Inv where
 σ := IL
 S := fun x => ⟨[(1, XT s), (5, XI b), (10, .sl 1 1 0 (lenI (rtL T s b p.i))), (11, XI p.i), (12, .ptr 2 0 0 0), (13, XB (useN (T.at p.i).dom.g s b (decide (b < 0) && (T.at p.i).dft) x.i)), (42, rows4 T), (43, XI p.i), (54, domX (T.at p.i).dom), (55, XI (T.at p.i).dom.n), (56, XI x.i)],
  [(0, .one e ap (tabX T)), (1, .vec 3 true (lenI (rtL T s b p.i)) 1 fun j => [XI (getI (rtL T s b p.i) j)]), (2, .one 26 true (lnkX (T.at p.i)))], 3, true, []⟩
 inv := fun x => x.i ≤ (T.at p.i).dom.n ∧ p.i < 4
 μ := fun x => (T.at p.i).dom.n - x.i
def rtE (T : LTab) (s : ByteArray) (e : TypeId) (ap : Bool) : Env := { loops := [(0, rtA T s e ap), (4, rtC T s e ap (bstT T s 4))], loopsP := [(2, ⟨IL, rtB T s e ap⟩), (6, ⟨IL, rtD T s e ap (bstT T s 4)⟩)], cas := [(4, (20, [0, 1, 2, 3])), (15, (43, [0, 1, 2, 3]))], own := [(13, [(10, 3, 1)])] }
def rtV_a (T : LTab) (e : TypeId) (ap : Bool) :=
 ((e = e ∧ ap = ap) ∧ T.l0.live = T.l0.live ∧ T.l0.gen = T.l0.gen ∧ ((XV.fz T.l0.dom.n 1 fun (j : Nat) => [XT (T.l0.dom.g j)]) = XV.fz T.l0.dom.n 1 fun (j : Nat) => [XT (T.l0.dom.g j)]) ∧ T.l0.dft = T.l0.dft ∧ T.l0.ll = T.l0.ll ∧ XV.fz T.l0.srv.n 16 T.l0.srv.g = XV.fz T.l0.srv.n 16 T.l0.srv.g ∧ XV.fz T.l0.loc.n 18 T.l0.loc.g = XV.fz T.l0.loc.n 18 T.l0.loc.g ∧ T.l1.live = T.l1.live ∧ T.l1.gen = T.l1.gen ∧ ((XV.fz T.l1.dom.n 1 fun (j : Nat) => [XT (T.l1.dom.g j)]) = XV.fz T.l1.dom.n 1 fun (j : Nat) => [XT (T.l1.dom.g j)]) ∧ T.l1.dft = T.l1.dft ∧ T.l1.ll = T.l1.ll ∧ XV.fz T.l1.srv.n 16 T.l1.srv.g = XV.fz T.l1.srv.n 16 T.l1.srv.g ∧ XV.fz T.l1.loc.n 18 T.l1.loc.g = XV.fz T.l1.loc.n 18 T.l1.loc.g ∧ T.l2.live = T.l2.live ∧ T.l2.gen = T.l2.gen ∧ ((XV.fz T.l2.dom.n 1 fun (j : Nat) => [XT (T.l2.dom.g j)]) = XV.fz T.l2.dom.n 1 fun (j : Nat) => [XT (T.l2.dom.g j)]) ∧ T.l2.dft = T.l2.dft ∧ T.l2.ll = T.l2.ll ∧ XV.fz T.l2.srv.n 16 T.l2.srv.g = XV.fz T.l2.srv.n 16 T.l2.srv.g ∧ XV.fz T.l2.loc.n 18 T.l2.loc.g = XV.fz T.l2.loc.n 18 T.l2.loc.g ∧ T.l3.live = T.l3.live ∧ T.l3.gen = T.l3.gen ∧ ((XV.fz T.l3.dom.n 1 fun (j : Nat) => [XT (T.l3.dom.g j)]) = XV.fz T.l3.dom.n 1 fun (j : Nat) => [XT (T.l3.dom.g j)]) ∧ T.l3.dft = T.l3.dft ∧ T.l3.ll = T.l3.ll ∧ XV.fz T.l3.srv.n 16 T.l3.srv.g = XV.fz T.l3.srv.n 16 T.l3.srv.g ∧ XV.fz T.l3.loc.n 18 T.l3.loc.g = XV.fz T.l3.loc.n 18 T.l3.loc.g ∧ XV.top = XV.top ∧ XV.top = XV.top ∧ XV.top = XV.top ∧ XV.top = XV.top ∧ T.g = T.g ∧ True)
def rtV_b (T : LTab) (p : IL) :=
 ((XV.fz (T.at p.i).dom.n 1 fun (j : Nat) => [XT ((T.at p.i).dom.g j)]) = XV.fz (T.at p.i).dom.n 1 fun (j : Nat) => [XT ((T.at p.i).dom.g j)])
def rtV_c (T : LTab) (s : ByteArray) (p : IL) :=
 (decide (bstT T s 4 < (0 : Int)) && (T.at p.i).dft)
def rtV_d (T : LTab) (p : IL) :=
 (((26 : TypeId) = (26 : TypeId) ∧ true = true) ∧ (T.at p.i).live = (T.at p.i).live ∧ (T.at p.i).gen = (T.at p.i).gen ∧ (rtV_b T p) ∧ (T.at p.i).dft = (T.at p.i).dft ∧ (T.at p.i).ll = (T.at p.i).ll ∧ XV.fz (T.at p.i).srv.n 16 (T.at p.i).srv.g = XV.fz (T.at p.i).srv.n 16 (T.at p.i).srv.g ∧ XV.fz (T.at p.i).loc.n 18 (T.at p.i).loc.g = XV.fz (T.at p.i).loc.n 18 (T.at p.i).loc.g ∧ True)
def rtV_e :=
 ((3 : TypeId) = (3 : TypeId) ∧ true = true ∧ (1 : Nat) = (1 : Nat))
def rtV_f (T : LTab) (s : ByteArray) (p : IL) (x_1 : IL) :=
 ((T.at p.i).live && useN (T.at p.i).dom.g s (bstT T s 4) (rtV_c T s p) x_1.i && decide ((↑(T.at p.i).srv.n : Int) > (0 : Int)))
def rtV_g (T : LTab) (s : ByteArray) (p : IL) (x_1 : IL) :=
 ((!useN (T.at p.i).dom.g s (bstT T s 4) (rtV_c T s p) x_1.i && (decide (bstT T s 4 ≥ (0 : Int)) && undB s ((T.at p.i).dom.g (↑x_1.i : Int).toNat))) = true → ((T.at p.i).dom.g (↑x_1.i : Int).toNat).size ≤ (1000000 : Nat))
def rtV_h (T : LTab) (s : ByteArray) (p : IL) (x_1 : IL) :=
 (!useN (T.at p.i).dom.g s (bstT T s 4) (rtV_c T s p) x_1.i && decide (bstT T s 4 ≥ (0 : Int)))
def rtV_i (T : LTab) (s : ByteArray) (p : IL) (x_1 : IL) :=
 (useN (T.at p.i).dom.g s (bstT T s 4) (rtV_c T s p) x_1.i || decide (bstT T s 4 ≥ (0 : Int)) && undB s ((T.at p.i).dom.g (↑x_1.i : Int).toNat) && cntL ((T.at p.i).dom.g (↑x_1.i : Int).toNat) == bstT T s 4)
def rtV (T : LTab) (s : ByteArray) (e : TypeId) (ap : Bool) : Prop :=
 (∃ (x : (rtA T s e ap).σ), x.i.le 4 ∧ true = true ∧ XV.ptr 0 0 0 0 = XV.ptr 0 0 0 0 ∧ s = s ∧ (-1 : Int) = bstT T s x.i ∧ XV.agg [XB T.l0.live, XI T.l0.gen, XV.fz T.l0.dom.n 1 fun (j : Nat) => [XT (T.l0.dom.g j)], XB T.l0.dft, XB T.l0.ll, XV.fz T.l0.srv.n 16 T.l0.srv.g, XV.fz T.l0.loc.n 18 T.l0.loc.g, XB T.l1.live, XI T.l1.gen, XV.fz T.l1.dom.n 1 fun (j : Nat) => [XT (T.l1.dom.g j)], XB T.l1.dft, XB T.l1.ll, XV.fz T.l1.srv.n 16 T.l1.srv.g, XV.fz T.l1.loc.n 18 T.l1.loc.g, XB T.l2.live, XI T.l2.gen, XV.fz T.l2.dom.n 1 fun (j : Nat) => [XT (T.l2.dom.g j)], XB T.l2.dft, XB T.l2.ll, XV.fz T.l2.srv.n 16 T.l2.srv.g, XV.fz T.l2.loc.n 18 T.l2.loc.g, XB T.l3.live, XI T.l3.gen, XV.fz T.l3.dom.n 1 fun (j : Nat) => [XT (T.l3.dom.g j)], XB T.l3.dft, XB T.l3.ll, XV.fz T.l3.srv.n 16 T.l3.srv.g, XV.fz T.l3.loc.n 18 T.l3.loc.g] = XV.agg [XB T.l0.live, XI T.l0.gen, XV.fz T.l0.dom.n 1 fun (j : Nat) => [XT (T.l0.dom.g j)], XB T.l0.dft, XB T.l0.ll, XV.fz T.l0.srv.n 16 T.l0.srv.g, XV.fz T.l0.loc.n 18 T.l0.loc.g, XB T.l1.live, XI T.l1.gen, XV.fz T.l1.dom.n 1 fun (j : Nat) => [XT (T.l1.dom.g j)], XB T.l1.dft, XB T.l1.ll, XV.fz T.l1.srv.n 16 T.l1.srv.g, XV.fz T.l1.loc.n 18 T.l1.loc.g, XB T.l2.live, XI T.l2.gen, XV.fz T.l2.dom.n 1 fun (j : Nat) => [XT (T.l2.dom.g j)], XB T.l2.dft, XB T.l2.ll, XV.fz T.l2.srv.n 16 T.l2.srv.g, XV.fz T.l2.loc.n 18 T.l2.loc.g, XB T.l3.live, XI T.l3.gen, XV.fz T.l3.dom.n 1 fun (j : Nat) => [XT (T.l3.dom.g j)], XB T.l3.dft, XB T.l3.ll, XV.fz T.l3.srv.n 16 T.l3.srv.g, XV.fz T.l3.loc.n 18 T.l3.loc.g] ∧ (0 : Int) = (↑x.i : Int) ∧ (rtV_a T e ap) ∧ True) ∧ ∀ (x : IL), x.i.le 4 → (decide ((↑x.i : Int) < (4 : Int)) = true → ((↑x.i : Int) = (0 : Int) ∨ (↑x.i : Int) = (1 : Int) ∨ (↑x.i : Int) = (2 : Int) ∨ (↑x.i : Int) = (3 : Int) ∨ False) ∧ ((↑x.i : Int) = (0 : Int) → (0 : Int) ≤ (0 : Int) ∧ (0 : Int) < (↑(4 : Nat) : Int) ∧ ∃ (p : { α := IL, J := rtB T s e ap : InvP }.α), (∃ (x_1 : ({ α := IL, J := rtB T s e ap : InvP }.J p).σ), (x_1.i ≤ (T.at p.i).dom.n ∧ p.i < (4 : Nat)) ∧ true = true ∧ XV.ptr 0 0 0 0 = XV.ptr 0 0 0 0 ∧ s = s ∧ bstT T s x.i = bstN (T.at p.i).dom.g s (bstT T s p.i) x_1.i ∧ XV.agg [XB T.l0.live, XI T.l0.gen, XV.fz T.l0.dom.n 1 fun (j : Nat) => [XT (T.l0.dom.g j)], XB T.l0.dft, XB T.l0.ll, XV.fz T.l0.srv.n 16 T.l0.srv.g, XV.fz T.l0.loc.n 18 T.l0.loc.g, XB T.l1.live, XI T.l1.gen, XV.fz T.l1.dom.n 1 fun (j : Nat) => [XT (T.l1.dom.g j)], XB T.l1.dft, XB T.l1.ll, XV.fz T.l1.srv.n 16 T.l1.srv.g, XV.fz T.l1.loc.n 18 T.l1.loc.g, XB T.l2.live, XI T.l2.gen, XV.fz T.l2.dom.n 1 fun (j : Nat) => [XT (T.l2.dom.g j)], XB T.l2.dft, XB T.l2.ll, XV.fz T.l2.srv.n 16 T.l2.srv.g, XV.fz T.l2.loc.n 18 T.l2.loc.g, XB T.l3.live, XI T.l3.gen, XV.fz T.l3.dom.n 1 fun (j : Nat) => [XT (T.l3.dom.g j)], XB T.l3.dft, XB T.l3.ll, XV.fz T.l3.srv.n 16 T.l3.srv.g, XV.fz T.l3.loc.n 18 T.l3.loc.g] = XV.agg [XB T.l0.live, XI T.l0.gen, XV.fz T.l0.dom.n 1 fun (j : Nat) => [XT (T.l0.dom.g j)], XB T.l0.dft, XB T.l0.ll, XV.fz T.l0.srv.n 16 T.l0.srv.g, XV.fz T.l0.loc.n 18 T.l0.loc.g, XB T.l1.live, XI T.l1.gen, XV.fz T.l1.dom.n 1 fun (j : Nat) => [XT (T.l1.dom.g j)], XB T.l1.dft, XB T.l1.ll, XV.fz T.l1.srv.n 16 T.l1.srv.g, XV.fz T.l1.loc.n 18 T.l1.loc.g, XB T.l2.live, XI T.l2.gen, XV.fz T.l2.dom.n 1 fun (j : Nat) => [XT (T.l2.dom.g j)], XB T.l2.dft, XB T.l2.ll, XV.fz T.l2.srv.n 16 T.l2.srv.g, XV.fz T.l2.loc.n 18 T.l2.loc.g, XB T.l3.live, XI T.l3.gen, XV.fz T.l3.dom.n 1 fun (j : Nat) => [XT (T.l3.dom.g j)], XB T.l3.dft, XB T.l3.ll, XV.fz T.l3.srv.n 16 T.l3.srv.g, XV.fz T.l3.loc.n 18 T.l3.loc.g] ∧ (0 : Int) = (↑p.i : Int) ∧ ((XV.fz T.l0.dom.n 1 fun (j : Nat) => [XT (T.l0.dom.g j)]) = XV.fz (T.at p.i).dom.n 1 fun (j : Nat) => [XT ((T.at p.i).dom.g j)]) ∧ (↑T.l0.dom.n : Int) = (↑(T.at p.i).dom.n : Int) ∧ (0 : Int) = (↑x_1.i : Int) ∧ (rtV_a T e ap) ∧ True) ∧ ∀ (x_1 : IL), x_1.i ≤ (T.at p.i).dom.n ∧ p.i < (4 : Nat) → (decide ((↑x_1.i : Int) < (↑(T.at p.i).dom.n : Int)) = true → (0 : Int) ≤ (↑x_1.i : Int) ∧ (↑x_1.i : Int) < (↑(T.at p.i).dom.n : Int) ∧ s.size ≤ (1000000 : Nat) ∧ ((T.at p.i).dom.g (↑x_1.i : Int).toNat).size ≤ (1000000 : Nat) ∧ (undB s ((T.at p.i).dom.g (↑x_1.i : Int).toNat) = true → ((T.at p.i).dom.g (↑x_1.i : Int).toNat).size ≤ (1000000 : Nat) ∧ in64 ((↑x_1.i : Int) + (1 : Int)) ∧ ∃ (x' : ({ α := IL, J := rtB T s e ap : InvP }.J p).σ), (x'.i ≤ (T.at p.i).dom.n ∧ p.i < (4 : Nat)) ∧ (T.at p.i).dom.n - x'.i < (T.at p.i).dom.n - x_1.i ∧ true = true ∧ XV.ptr 0 0 0 0 = XV.ptr 0 0 0 0 ∧ s = s ∧ imax (bstN (T.at p.i).dom.g s (bstT T s p.i) x_1.i) (cntL ((T.at p.i).dom.g (↑x_1.i : Int).toNat)) = bstN (T.at p.i).dom.g s (bstT T s p.i) x'.i ∧ XV.agg [XB T.l0.live, XI T.l0.gen, XV.fz T.l0.dom.n 1 fun (j : Nat) => [XT (T.l0.dom.g j)], XB T.l0.dft, XB T.l0.ll, XV.fz T.l0.srv.n 16 T.l0.srv.g, XV.fz T.l0.loc.n 18 T.l0.loc.g, XB T.l1.live, XI T.l1.gen, XV.fz T.l1.dom.n 1 fun (j : Nat) => [XT (T.l1.dom.g j)], XB T.l1.dft, XB T.l1.ll, XV.fz T.l1.srv.n 16 T.l1.srv.g, XV.fz T.l1.loc.n 18 T.l1.loc.g, XB T.l2.live, XI T.l2.gen, XV.fz T.l2.dom.n 1 fun (j : Nat) => [XT (T.l2.dom.g j)], XB T.l2.dft, XB T.l2.ll, XV.fz T.l2.srv.n 16 T.l2.srv.g, XV.fz T.l2.loc.n 18 T.l2.loc.g, XB T.l3.live, XI T.l3.gen, XV.fz T.l3.dom.n 1 fun (j : Nat) => [XT (T.l3.dom.g j)], XB T.l3.dft, XB T.l3.ll, XV.fz T.l3.srv.n 16 T.l3.srv.g, XV.fz T.l3.loc.n 18 T.l3.loc.g] = XV.agg [XB T.l0.live, XI T.l0.gen, XV.fz T.l0.dom.n 1 fun (j : Nat) => [XT (T.l0.dom.g j)], XB T.l0.dft, XB T.l0.ll, XV.fz T.l0.srv.n 16 T.l0.srv.g, XV.fz T.l0.loc.n 18 T.l0.loc.g, XB T.l1.live, XI T.l1.gen, XV.fz T.l1.dom.n 1 fun (j : Nat) => [XT (T.l1.dom.g j)], XB T.l1.dft, XB T.l1.ll, XV.fz T.l1.srv.n 16 T.l1.srv.g, XV.fz T.l1.loc.n 18 T.l1.loc.g, XB T.l2.live, XI T.l2.gen, XV.fz T.l2.dom.n 1 fun (j : Nat) => [XT (T.l2.dom.g j)], XB T.l2.dft, XB T.l2.ll, XV.fz T.l2.srv.n 16 T.l2.srv.g, XV.fz T.l2.loc.n 18 T.l2.loc.g, XB T.l3.live, XI T.l3.gen, XV.fz T.l3.dom.n 1 fun (j : Nat) => [XT (T.l3.dom.g j)], XB T.l3.dft, XB T.l3.ll, XV.fz T.l3.srv.n 16 T.l3.srv.g, XV.fz T.l3.loc.n 18 T.l3.loc.g] ∧ (↑p.i : Int) = (↑p.i : Int) ∧ (rtV_b T p) ∧ (↑(T.at p.i).dom.n : Int) = (↑(T.at p.i).dom.n : Int) ∧ (↑x_1.i : Int) + (1 : Int) = (↑x'.i : Int) ∧ (rtV_a T e ap) ∧ True) ∧ (undB s ((T.at p.i).dom.g (↑x_1.i : Int).toNat) = false → in64 ((↑x_1.i : Int) + (1 : Int)) ∧ ∃ (x' : ({ α := IL, J := rtB T s e ap : InvP }.J p).σ), (x'.i ≤ (T.at p.i).dom.n ∧ p.i < (4 : Nat)) ∧ (T.at p.i).dom.n - x'.i < (T.at p.i).dom.n - x_1.i ∧ true = true ∧ XV.ptr 0 0 0 0 = XV.ptr 0 0 0 0 ∧ s = s ∧ bstN (T.at p.i).dom.g s (bstT T s p.i) x_1.i = bstN (T.at p.i).dom.g s (bstT T s p.i) x'.i ∧ XV.agg [XB T.l0.live, XI T.l0.gen, XV.fz T.l0.dom.n 1 fun (j : Nat) => [XT (T.l0.dom.g j)], XB T.l0.dft, XB T.l0.ll, XV.fz T.l0.srv.n 16 T.l0.srv.g, XV.fz T.l0.loc.n 18 T.l0.loc.g, XB T.l1.live, XI T.l1.gen, XV.fz T.l1.dom.n 1 fun (j : Nat) => [XT (T.l1.dom.g j)], XB T.l1.dft, XB T.l1.ll, XV.fz T.l1.srv.n 16 T.l1.srv.g, XV.fz T.l1.loc.n 18 T.l1.loc.g, XB T.l2.live, XI T.l2.gen, XV.fz T.l2.dom.n 1 fun (j : Nat) => [XT (T.l2.dom.g j)], XB T.l2.dft, XB T.l2.ll, XV.fz T.l2.srv.n 16 T.l2.srv.g, XV.fz T.l2.loc.n 18 T.l2.loc.g, XB T.l3.live, XI T.l3.gen, XV.fz T.l3.dom.n 1 fun (j : Nat) => [XT (T.l3.dom.g j)], XB T.l3.dft, XB T.l3.ll, XV.fz T.l3.srv.n 16 T.l3.srv.g, XV.fz T.l3.loc.n 18 T.l3.loc.g] = XV.agg [XB T.l0.live, XI T.l0.gen, XV.fz T.l0.dom.n 1 fun (j : Nat) => [XT (T.l0.dom.g j)], XB T.l0.dft, XB T.l0.ll, XV.fz T.l0.srv.n 16 T.l0.srv.g, XV.fz T.l0.loc.n 18 T.l0.loc.g, XB T.l1.live, XI T.l1.gen, XV.fz T.l1.dom.n 1 fun (j : Nat) => [XT (T.l1.dom.g j)], XB T.l1.dft, XB T.l1.ll, XV.fz T.l1.srv.n 16 T.l1.srv.g, XV.fz T.l1.loc.n 18 T.l1.loc.g, XB T.l2.live, XI T.l2.gen, XV.fz T.l2.dom.n 1 fun (j : Nat) => [XT (T.l2.dom.g j)], XB T.l2.dft, XB T.l2.ll, XV.fz T.l2.srv.n 16 T.l2.srv.g, XV.fz T.l2.loc.n 18 T.l2.loc.g, XB T.l3.live, XI T.l3.gen, XV.fz T.l3.dom.n 1 fun (j : Nat) => [XT (T.l3.dom.g j)], XB T.l3.dft, XB T.l3.ll, XV.fz T.l3.srv.n 16 T.l3.srv.g, XV.fz T.l3.loc.n 18 T.l3.loc.g] ∧ (↑p.i : Int) = (↑p.i : Int) ∧ (rtV_b T p) ∧ (↑(T.at p.i).dom.n : Int) = (↑(T.at p.i).dom.n : Int) ∧ (↑x_1.i : Int) + (1 : Int) = (↑x'.i : Int) ∧ (rtV_a T e ap) ∧ True)) ∧ (decide ((↑x_1.i : Int) < (↑(T.at p.i).dom.n : Int)) = false → in64 ((↑p.i : Int) + (1 : Int)) ∧ ∃ (x' : (rtA T s e ap).σ), x'.i.le 4 ∧ (4 : Nat) - x'.i < (4 : Nat) - x.i ∧ true = true ∧ XV.ptr 0 0 0 0 = XV.ptr 0 0 0 0 ∧ s = s ∧ bstN (T.at p.i).dom.g s (bstT T s p.i) x_1.i = bstT T s x'.i ∧ XV.agg [XB T.l0.live, XI T.l0.gen, XV.fz T.l0.dom.n 1 fun (j : Nat) => [XT (T.l0.dom.g j)], XB T.l0.dft, XB T.l0.ll, XV.fz T.l0.srv.n 16 T.l0.srv.g, XV.fz T.l0.loc.n 18 T.l0.loc.g, XB T.l1.live, XI T.l1.gen, XV.fz T.l1.dom.n 1 fun (j : Nat) => [XT (T.l1.dom.g j)], XB T.l1.dft, XB T.l1.ll, XV.fz T.l1.srv.n 16 T.l1.srv.g, XV.fz T.l1.loc.n 18 T.l1.loc.g, XB T.l2.live, XI T.l2.gen, XV.fz T.l2.dom.n 1 fun (j : Nat) => [XT (T.l2.dom.g j)], XB T.l2.dft, XB T.l2.ll, XV.fz T.l2.srv.n 16 T.l2.srv.g, XV.fz T.l2.loc.n 18 T.l2.loc.g, XB T.l3.live, XI T.l3.gen, XV.fz T.l3.dom.n 1 fun (j : Nat) => [XT (T.l3.dom.g j)], XB T.l3.dft, XB T.l3.ll, XV.fz T.l3.srv.n 16 T.l3.srv.g, XV.fz T.l3.loc.n 18 T.l3.loc.g] = XV.agg [XB T.l0.live, XI T.l0.gen, XV.fz T.l0.dom.n 1 fun (j : Nat) => [XT (T.l0.dom.g j)], XB T.l0.dft, XB T.l0.ll, XV.fz T.l0.srv.n 16 T.l0.srv.g, XV.fz T.l0.loc.n 18 T.l0.loc.g, XB T.l1.live, XI T.l1.gen, XV.fz T.l1.dom.n 1 fun (j : Nat) => [XT (T.l1.dom.g j)], XB T.l1.dft, XB T.l1.ll, XV.fz T.l1.srv.n 16 T.l1.srv.g, XV.fz T.l1.loc.n 18 T.l1.loc.g, XB T.l2.live, XI T.l2.gen, XV.fz T.l2.dom.n 1 fun (j : Nat) => [XT (T.l2.dom.g j)], XB T.l2.dft, XB T.l2.ll, XV.fz T.l2.srv.n 16 T.l2.srv.g, XV.fz T.l2.loc.n 18 T.l2.loc.g, XB T.l3.live, XI T.l3.gen, XV.fz T.l3.dom.n 1 fun (j : Nat) => [XT (T.l3.dom.g j)], XB T.l3.dft, XB T.l3.ll, XV.fz T.l3.srv.n 16 T.l3.srv.g, XV.fz T.l3.loc.n 18 T.l3.loc.g] ∧ (↑p.i : Int) + (1 : Int) = (↑x'.i : Int) ∧ (rtV_a T e ap) ∧ True)) ∧ ((↑x.i : Int) = (1 : Int) → (0 : Int) ≤ (1 : Int) ∧ (1 : Int) < (↑(4 : Nat) : Int) ∧ ∃ (p : { α := IL, J := rtB T s e ap : InvP }.α), (∃ (x_1 : ({ α := IL, J := rtB T s e ap : InvP }.J p).σ), (x_1.i ≤ (T.at p.i).dom.n ∧ p.i < (4 : Nat)) ∧ true = true ∧ XV.ptr 0 0 0 0 = XV.ptr 0 0 0 0 ∧ s = s ∧ bstT T s x.i = bstN (T.at p.i).dom.g s (bstT T s p.i) x_1.i ∧ XV.agg [XB T.l0.live, XI T.l0.gen, XV.fz T.l0.dom.n 1 fun (j : Nat) => [XT (T.l0.dom.g j)], XB T.l0.dft, XB T.l0.ll, XV.fz T.l0.srv.n 16 T.l0.srv.g, XV.fz T.l0.loc.n 18 T.l0.loc.g, XB T.l1.live, XI T.l1.gen, XV.fz T.l1.dom.n 1 fun (j : Nat) => [XT (T.l1.dom.g j)], XB T.l1.dft, XB T.l1.ll, XV.fz T.l1.srv.n 16 T.l1.srv.g, XV.fz T.l1.loc.n 18 T.l1.loc.g, XB T.l2.live, XI T.l2.gen, XV.fz T.l2.dom.n 1 fun (j : Nat) => [XT (T.l2.dom.g j)], XB T.l2.dft, XB T.l2.ll, XV.fz T.l2.srv.n 16 T.l2.srv.g, XV.fz T.l2.loc.n 18 T.l2.loc.g, XB T.l3.live, XI T.l3.gen, XV.fz T.l3.dom.n 1 fun (j : Nat) => [XT (T.l3.dom.g j)], XB T.l3.dft, XB T.l3.ll, XV.fz T.l3.srv.n 16 T.l3.srv.g, XV.fz T.l3.loc.n 18 T.l3.loc.g] = XV.agg [XB T.l0.live, XI T.l0.gen, XV.fz T.l0.dom.n 1 fun (j : Nat) => [XT (T.l0.dom.g j)], XB T.l0.dft, XB T.l0.ll, XV.fz T.l0.srv.n 16 T.l0.srv.g, XV.fz T.l0.loc.n 18 T.l0.loc.g, XB T.l1.live, XI T.l1.gen, XV.fz T.l1.dom.n 1 fun (j : Nat) => [XT (T.l1.dom.g j)], XB T.l1.dft, XB T.l1.ll, XV.fz T.l1.srv.n 16 T.l1.srv.g, XV.fz T.l1.loc.n 18 T.l1.loc.g, XB T.l2.live, XI T.l2.gen, XV.fz T.l2.dom.n 1 fun (j : Nat) => [XT (T.l2.dom.g j)], XB T.l2.dft, XB T.l2.ll, XV.fz T.l2.srv.n 16 T.l2.srv.g, XV.fz T.l2.loc.n 18 T.l2.loc.g, XB T.l3.live, XI T.l3.gen, XV.fz T.l3.dom.n 1 fun (j : Nat) => [XT (T.l3.dom.g j)], XB T.l3.dft, XB T.l3.ll, XV.fz T.l3.srv.n 16 T.l3.srv.g, XV.fz T.l3.loc.n 18 T.l3.loc.g] ∧ (1 : Int) = (↑p.i : Int) ∧ ((XV.fz T.l1.dom.n 1 fun (j : Nat) => [XT (T.l1.dom.g j)]) = XV.fz (T.at p.i).dom.n 1 fun (j : Nat) => [XT ((T.at p.i).dom.g j)]) ∧ (↑T.l1.dom.n : Int) = (↑(T.at p.i).dom.n : Int) ∧ (0 : Int) = (↑x_1.i : Int) ∧ (rtV_a T e ap) ∧ True) ∧ ∀ (x_1 : IL), x_1.i ≤ (T.at p.i).dom.n ∧ p.i < (4 : Nat) → (decide ((↑x_1.i : Int) < (↑(T.at p.i).dom.n : Int)) = true → (0 : Int) ≤ (↑x_1.i : Int) ∧ (↑x_1.i : Int) < (↑(T.at p.i).dom.n : Int) ∧ s.size ≤ (1000000 : Nat) ∧ ((T.at p.i).dom.g (↑x_1.i : Int).toNat).size ≤ (1000000 : Nat) ∧ (undB s ((T.at p.i).dom.g (↑x_1.i : Int).toNat) = true → ((T.at p.i).dom.g (↑x_1.i : Int).toNat).size ≤ (1000000 : Nat) ∧ in64 ((↑x_1.i : Int) + (1 : Int)) ∧ ∃ (x' : ({ α := IL, J := rtB T s e ap : InvP }.J p).σ), (x'.i ≤ (T.at p.i).dom.n ∧ p.i < (4 : Nat)) ∧ (T.at p.i).dom.n - x'.i < (T.at p.i).dom.n - x_1.i ∧ true = true ∧ XV.ptr 0 0 0 0 = XV.ptr 0 0 0 0 ∧ s = s ∧ imax (bstN (T.at p.i).dom.g s (bstT T s p.i) x_1.i) (cntL ((T.at p.i).dom.g (↑x_1.i : Int).toNat)) = bstN (T.at p.i).dom.g s (bstT T s p.i) x'.i ∧ XV.agg [XB T.l0.live, XI T.l0.gen, XV.fz T.l0.dom.n 1 fun (j : Nat) => [XT (T.l0.dom.g j)], XB T.l0.dft, XB T.l0.ll, XV.fz T.l0.srv.n 16 T.l0.srv.g, XV.fz T.l0.loc.n 18 T.l0.loc.g, XB T.l1.live, XI T.l1.gen, XV.fz T.l1.dom.n 1 fun (j : Nat) => [XT (T.l1.dom.g j)], XB T.l1.dft, XB T.l1.ll, XV.fz T.l1.srv.n 16 T.l1.srv.g, XV.fz T.l1.loc.n 18 T.l1.loc.g, XB T.l2.live, XI T.l2.gen, XV.fz T.l2.dom.n 1 fun (j : Nat) => [XT (T.l2.dom.g j)], XB T.l2.dft, XB T.l2.ll, XV.fz T.l2.srv.n 16 T.l2.srv.g, XV.fz T.l2.loc.n 18 T.l2.loc.g, XB T.l3.live, XI T.l3.gen, XV.fz T.l3.dom.n 1 fun (j : Nat) => [XT (T.l3.dom.g j)], XB T.l3.dft, XB T.l3.ll, XV.fz T.l3.srv.n 16 T.l3.srv.g, XV.fz T.l3.loc.n 18 T.l3.loc.g] = XV.agg [XB T.l0.live, XI T.l0.gen, XV.fz T.l0.dom.n 1 fun (j : Nat) => [XT (T.l0.dom.g j)], XB T.l0.dft, XB T.l0.ll, XV.fz T.l0.srv.n 16 T.l0.srv.g, XV.fz T.l0.loc.n 18 T.l0.loc.g, XB T.l1.live, XI T.l1.gen, XV.fz T.l1.dom.n 1 fun (j : Nat) => [XT (T.l1.dom.g j)], XB T.l1.dft, XB T.l1.ll, XV.fz T.l1.srv.n 16 T.l1.srv.g, XV.fz T.l1.loc.n 18 T.l1.loc.g, XB T.l2.live, XI T.l2.gen, XV.fz T.l2.dom.n 1 fun (j : Nat) => [XT (T.l2.dom.g j)], XB T.l2.dft, XB T.l2.ll, XV.fz T.l2.srv.n 16 T.l2.srv.g, XV.fz T.l2.loc.n 18 T.l2.loc.g, XB T.l3.live, XI T.l3.gen, XV.fz T.l3.dom.n 1 fun (j : Nat) => [XT (T.l3.dom.g j)], XB T.l3.dft, XB T.l3.ll, XV.fz T.l3.srv.n 16 T.l3.srv.g, XV.fz T.l3.loc.n 18 T.l3.loc.g] ∧ (↑p.i : Int) = (↑p.i : Int) ∧ (rtV_b T p) ∧ (↑(T.at p.i).dom.n : Int) = (↑(T.at p.i).dom.n : Int) ∧ (↑x_1.i : Int) + (1 : Int) = (↑x'.i : Int) ∧ (rtV_a T e ap) ∧ True) ∧ (undB s ((T.at p.i).dom.g (↑x_1.i : Int).toNat) = false → in64 ((↑x_1.i : Int) + (1 : Int)) ∧ ∃ (x' : ({ α := IL, J := rtB T s e ap : InvP }.J p).σ), (x'.i ≤ (T.at p.i).dom.n ∧ p.i < (4 : Nat)) ∧ (T.at p.i).dom.n - x'.i < (T.at p.i).dom.n - x_1.i ∧ true = true ∧ XV.ptr 0 0 0 0 = XV.ptr 0 0 0 0 ∧ s = s ∧ bstN (T.at p.i).dom.g s (bstT T s p.i) x_1.i = bstN (T.at p.i).dom.g s (bstT T s p.i) x'.i ∧ XV.agg [XB T.l0.live, XI T.l0.gen, XV.fz T.l0.dom.n 1 fun (j : Nat) => [XT (T.l0.dom.g j)], XB T.l0.dft, XB T.l0.ll, XV.fz T.l0.srv.n 16 T.l0.srv.g, XV.fz T.l0.loc.n 18 T.l0.loc.g, XB T.l1.live, XI T.l1.gen, XV.fz T.l1.dom.n 1 fun (j : Nat) => [XT (T.l1.dom.g j)], XB T.l1.dft, XB T.l1.ll, XV.fz T.l1.srv.n 16 T.l1.srv.g, XV.fz T.l1.loc.n 18 T.l1.loc.g, XB T.l2.live, XI T.l2.gen, XV.fz T.l2.dom.n 1 fun (j : Nat) => [XT (T.l2.dom.g j)], XB T.l2.dft, XB T.l2.ll, XV.fz T.l2.srv.n 16 T.l2.srv.g, XV.fz T.l2.loc.n 18 T.l2.loc.g, XB T.l3.live, XI T.l3.gen, XV.fz T.l3.dom.n 1 fun (j : Nat) => [XT (T.l3.dom.g j)], XB T.l3.dft, XB T.l3.ll, XV.fz T.l3.srv.n 16 T.l3.srv.g, XV.fz T.l3.loc.n 18 T.l3.loc.g] = XV.agg [XB T.l0.live, XI T.l0.gen, XV.fz T.l0.dom.n 1 fun (j : Nat) => [XT (T.l0.dom.g j)], XB T.l0.dft, XB T.l0.ll, XV.fz T.l0.srv.n 16 T.l0.srv.g, XV.fz T.l0.loc.n 18 T.l0.loc.g, XB T.l1.live, XI T.l1.gen, XV.fz T.l1.dom.n 1 fun (j : Nat) => [XT (T.l1.dom.g j)], XB T.l1.dft, XB T.l1.ll, XV.fz T.l1.srv.n 16 T.l1.srv.g, XV.fz T.l1.loc.n 18 T.l1.loc.g, XB T.l2.live, XI T.l2.gen, XV.fz T.l2.dom.n 1 fun (j : Nat) => [XT (T.l2.dom.g j)], XB T.l2.dft, XB T.l2.ll, XV.fz T.l2.srv.n 16 T.l2.srv.g, XV.fz T.l2.loc.n 18 T.l2.loc.g, XB T.l3.live, XI T.l3.gen, XV.fz T.l3.dom.n 1 fun (j : Nat) => [XT (T.l3.dom.g j)], XB T.l3.dft, XB T.l3.ll, XV.fz T.l3.srv.n 16 T.l3.srv.g, XV.fz T.l3.loc.n 18 T.l3.loc.g] ∧ (↑p.i : Int) = (↑p.i : Int) ∧ (rtV_b T p) ∧ (↑(T.at p.i).dom.n : Int) = (↑(T.at p.i).dom.n : Int) ∧ (↑x_1.i : Int) + (1 : Int) = (↑x'.i : Int) ∧ (rtV_a T e ap) ∧ True)) ∧ (decide ((↑x_1.i : Int) < (↑(T.at p.i).dom.n : Int)) = false → in64 ((↑p.i : Int) + (1 : Int)) ∧ ∃ (x' : (rtA T s e ap).σ), x'.i.le 4 ∧ (4 : Nat) - x'.i < (4 : Nat) - x.i ∧ true = true ∧ XV.ptr 0 0 0 0 = XV.ptr 0 0 0 0 ∧ s = s ∧ bstN (T.at p.i).dom.g s (bstT T s p.i) x_1.i = bstT T s x'.i ∧ XV.agg [XB T.l0.live, XI T.l0.gen, XV.fz T.l0.dom.n 1 fun (j : Nat) => [XT (T.l0.dom.g j)], XB T.l0.dft, XB T.l0.ll, XV.fz T.l0.srv.n 16 T.l0.srv.g, XV.fz T.l0.loc.n 18 T.l0.loc.g, XB T.l1.live, XI T.l1.gen, XV.fz T.l1.dom.n 1 fun (j : Nat) => [XT (T.l1.dom.g j)], XB T.l1.dft, XB T.l1.ll, XV.fz T.l1.srv.n 16 T.l1.srv.g, XV.fz T.l1.loc.n 18 T.l1.loc.g, XB T.l2.live, XI T.l2.gen, XV.fz T.l2.dom.n 1 fun (j : Nat) => [XT (T.l2.dom.g j)], XB T.l2.dft, XB T.l2.ll, XV.fz T.l2.srv.n 16 T.l2.srv.g, XV.fz T.l2.loc.n 18 T.l2.loc.g, XB T.l3.live, XI T.l3.gen, XV.fz T.l3.dom.n 1 fun (j : Nat) => [XT (T.l3.dom.g j)], XB T.l3.dft, XB T.l3.ll, XV.fz T.l3.srv.n 16 T.l3.srv.g, XV.fz T.l3.loc.n 18 T.l3.loc.g] = XV.agg [XB T.l0.live, XI T.l0.gen, XV.fz T.l0.dom.n 1 fun (j : Nat) => [XT (T.l0.dom.g j)], XB T.l0.dft, XB T.l0.ll, XV.fz T.l0.srv.n 16 T.l0.srv.g, XV.fz T.l0.loc.n 18 T.l0.loc.g, XB T.l1.live, XI T.l1.gen, XV.fz T.l1.dom.n 1 fun (j : Nat) => [XT (T.l1.dom.g j)], XB T.l1.dft, XB T.l1.ll, XV.fz T.l1.srv.n 16 T.l1.srv.g, XV.fz T.l1.loc.n 18 T.l1.loc.g, XB T.l2.live, XI T.l2.gen, XV.fz T.l2.dom.n 1 fun (j : Nat) => [XT (T.l2.dom.g j)], XB T.l2.dft, XB T.l2.ll, XV.fz T.l2.srv.n 16 T.l2.srv.g, XV.fz T.l2.loc.n 18 T.l2.loc.g, XB T.l3.live, XI T.l3.gen, XV.fz T.l3.dom.n 1 fun (j : Nat) => [XT (T.l3.dom.g j)], XB T.l3.dft, XB T.l3.ll, XV.fz T.l3.srv.n 16 T.l3.srv.g, XV.fz T.l3.loc.n 18 T.l3.loc.g] ∧ (↑p.i : Int) + (1 : Int) = (↑x'.i : Int) ∧ (rtV_a T e ap) ∧ True)) ∧ ((↑x.i : Int) = (2 : Int) → (0 : Int) ≤ (2 : Int) ∧ (2 : Int) < (↑(4 : Nat) : Int) ∧ ∃ (p : { α := IL, J := rtB T s e ap : InvP }.α), (∃ (x_1 : ({ α := IL, J := rtB T s e ap : InvP }.J p).σ), (x_1.i ≤ (T.at p.i).dom.n ∧ p.i < (4 : Nat)) ∧ true = true ∧ XV.ptr 0 0 0 0 = XV.ptr 0 0 0 0 ∧ s = s ∧ bstT T s x.i = bstN (T.at p.i).dom.g s (bstT T s p.i) x_1.i ∧ XV.agg [XB T.l0.live, XI T.l0.gen, XV.fz T.l0.dom.n 1 fun (j : Nat) => [XT (T.l0.dom.g j)], XB T.l0.dft, XB T.l0.ll, XV.fz T.l0.srv.n 16 T.l0.srv.g, XV.fz T.l0.loc.n 18 T.l0.loc.g, XB T.l1.live, XI T.l1.gen, XV.fz T.l1.dom.n 1 fun (j : Nat) => [XT (T.l1.dom.g j)], XB T.l1.dft, XB T.l1.ll, XV.fz T.l1.srv.n 16 T.l1.srv.g, XV.fz T.l1.loc.n 18 T.l1.loc.g, XB T.l2.live, XI T.l2.gen, XV.fz T.l2.dom.n 1 fun (j : Nat) => [XT (T.l2.dom.g j)], XB T.l2.dft, XB T.l2.ll, XV.fz T.l2.srv.n 16 T.l2.srv.g, XV.fz T.l2.loc.n 18 T.l2.loc.g, XB T.l3.live, XI T.l3.gen, XV.fz T.l3.dom.n 1 fun (j : Nat) => [XT (T.l3.dom.g j)], XB T.l3.dft, XB T.l3.ll, XV.fz T.l3.srv.n 16 T.l3.srv.g, XV.fz T.l3.loc.n 18 T.l3.loc.g] = XV.agg [XB T.l0.live, XI T.l0.gen, XV.fz T.l0.dom.n 1 fun (j : Nat) => [XT (T.l0.dom.g j)], XB T.l0.dft, XB T.l0.ll, XV.fz T.l0.srv.n 16 T.l0.srv.g, XV.fz T.l0.loc.n 18 T.l0.loc.g, XB T.l1.live, XI T.l1.gen, XV.fz T.l1.dom.n 1 fun (j : Nat) => [XT (T.l1.dom.g j)], XB T.l1.dft, XB T.l1.ll, XV.fz T.l1.srv.n 16 T.l1.srv.g, XV.fz T.l1.loc.n 18 T.l1.loc.g, XB T.l2.live, XI T.l2.gen, XV.fz T.l2.dom.n 1 fun (j : Nat) => [XT (T.l2.dom.g j)], XB T.l2.dft, XB T.l2.ll, XV.fz T.l2.srv.n 16 T.l2.srv.g, XV.fz T.l2.loc.n 18 T.l2.loc.g, XB T.l3.live, XI T.l3.gen, XV.fz T.l3.dom.n 1 fun (j : Nat) => [XT (T.l3.dom.g j)], XB T.l3.dft, XB T.l3.ll, XV.fz T.l3.srv.n 16 T.l3.srv.g, XV.fz T.l3.loc.n 18 T.l3.loc.g] ∧ (2 : Int) = (↑p.i : Int) ∧ ((XV.fz T.l2.dom.n 1 fun (j : Nat) => [XT (T.l2.dom.g j)]) = XV.fz (T.at p.i).dom.n 1 fun (j : Nat) => [XT ((T.at p.i).dom.g j)]) ∧ (↑T.l2.dom.n : Int) = (↑(T.at p.i).dom.n : Int) ∧ (0 : Int) = (↑x_1.i : Int) ∧ (rtV_a T e ap) ∧ True) ∧ ∀ (x_1 : IL), x_1.i ≤ (T.at p.i).dom.n ∧ p.i < (4 : Nat) → (decide ((↑x_1.i : Int) < (↑(T.at p.i).dom.n : Int)) = true → (0 : Int) ≤ (↑x_1.i : Int) ∧ (↑x_1.i : Int) < (↑(T.at p.i).dom.n : Int) ∧ s.size ≤ (1000000 : Nat) ∧ ((T.at p.i).dom.g (↑x_1.i : Int).toNat).size ≤ (1000000 : Nat) ∧ (undB s ((T.at p.i).dom.g (↑x_1.i : Int).toNat) = true → ((T.at p.i).dom.g (↑x_1.i : Int).toNat).size ≤ (1000000 : Nat) ∧ in64 ((↑x_1.i : Int) + (1 : Int)) ∧ ∃ (x' : ({ α := IL, J := rtB T s e ap : InvP }.J p).σ), (x'.i ≤ (T.at p.i).dom.n ∧ p.i < (4 : Nat)) ∧ (T.at p.i).dom.n - x'.i < (T.at p.i).dom.n - x_1.i ∧ true = true ∧ XV.ptr 0 0 0 0 = XV.ptr 0 0 0 0 ∧ s = s ∧ imax (bstN (T.at p.i).dom.g s (bstT T s p.i) x_1.i) (cntL ((T.at p.i).dom.g (↑x_1.i : Int).toNat)) = bstN (T.at p.i).dom.g s (bstT T s p.i) x'.i ∧ XV.agg [XB T.l0.live, XI T.l0.gen, XV.fz T.l0.dom.n 1 fun (j : Nat) => [XT (T.l0.dom.g j)], XB T.l0.dft, XB T.l0.ll, XV.fz T.l0.srv.n 16 T.l0.srv.g, XV.fz T.l0.loc.n 18 T.l0.loc.g, XB T.l1.live, XI T.l1.gen, XV.fz T.l1.dom.n 1 fun (j : Nat) => [XT (T.l1.dom.g j)], XB T.l1.dft, XB T.l1.ll, XV.fz T.l1.srv.n 16 T.l1.srv.g, XV.fz T.l1.loc.n 18 T.l1.loc.g, XB T.l2.live, XI T.l2.gen, XV.fz T.l2.dom.n 1 fun (j : Nat) => [XT (T.l2.dom.g j)], XB T.l2.dft, XB T.l2.ll, XV.fz T.l2.srv.n 16 T.l2.srv.g, XV.fz T.l2.loc.n 18 T.l2.loc.g, XB T.l3.live, XI T.l3.gen, XV.fz T.l3.dom.n 1 fun (j : Nat) => [XT (T.l3.dom.g j)], XB T.l3.dft, XB T.l3.ll, XV.fz T.l3.srv.n 16 T.l3.srv.g, XV.fz T.l3.loc.n 18 T.l3.loc.g] = XV.agg [XB T.l0.live, XI T.l0.gen, XV.fz T.l0.dom.n 1 fun (j : Nat) => [XT (T.l0.dom.g j)], XB T.l0.dft, XB T.l0.ll, XV.fz T.l0.srv.n 16 T.l0.srv.g, XV.fz T.l0.loc.n 18 T.l0.loc.g, XB T.l1.live, XI T.l1.gen, XV.fz T.l1.dom.n 1 fun (j : Nat) => [XT (T.l1.dom.g j)], XB T.l1.dft, XB T.l1.ll, XV.fz T.l1.srv.n 16 T.l1.srv.g, XV.fz T.l1.loc.n 18 T.l1.loc.g, XB T.l2.live, XI T.l2.gen, XV.fz T.l2.dom.n 1 fun (j : Nat) => [XT (T.l2.dom.g j)], XB T.l2.dft, XB T.l2.ll, XV.fz T.l2.srv.n 16 T.l2.srv.g, XV.fz T.l2.loc.n 18 T.l2.loc.g, XB T.l3.live, XI T.l3.gen, XV.fz T.l3.dom.n 1 fun (j : Nat) => [XT (T.l3.dom.g j)], XB T.l3.dft, XB T.l3.ll, XV.fz T.l3.srv.n 16 T.l3.srv.g, XV.fz T.l3.loc.n 18 T.l3.loc.g] ∧ (↑p.i : Int) = (↑p.i : Int) ∧ (rtV_b T p) ∧ (↑(T.at p.i).dom.n : Int) = (↑(T.at p.i).dom.n : Int) ∧ (↑x_1.i : Int) + (1 : Int) = (↑x'.i : Int) ∧ (rtV_a T e ap) ∧ True) ∧ (undB s ((T.at p.i).dom.g (↑x_1.i : Int).toNat) = false → in64 ((↑x_1.i : Int) + (1 : Int)) ∧ ∃ (x' : ({ α := IL, J := rtB T s e ap : InvP }.J p).σ), (x'.i ≤ (T.at p.i).dom.n ∧ p.i < (4 : Nat)) ∧ (T.at p.i).dom.n - x'.i < (T.at p.i).dom.n - x_1.i ∧ true = true ∧ XV.ptr 0 0 0 0 = XV.ptr 0 0 0 0 ∧ s = s ∧ bstN (T.at p.i).dom.g s (bstT T s p.i) x_1.i = bstN (T.at p.i).dom.g s (bstT T s p.i) x'.i ∧ XV.agg [XB T.l0.live, XI T.l0.gen, XV.fz T.l0.dom.n 1 fun (j : Nat) => [XT (T.l0.dom.g j)], XB T.l0.dft, XB T.l0.ll, XV.fz T.l0.srv.n 16 T.l0.srv.g, XV.fz T.l0.loc.n 18 T.l0.loc.g, XB T.l1.live, XI T.l1.gen, XV.fz T.l1.dom.n 1 fun (j : Nat) => [XT (T.l1.dom.g j)], XB T.l1.dft, XB T.l1.ll, XV.fz T.l1.srv.n 16 T.l1.srv.g, XV.fz T.l1.loc.n 18 T.l1.loc.g, XB T.l2.live, XI T.l2.gen, XV.fz T.l2.dom.n 1 fun (j : Nat) => [XT (T.l2.dom.g j)], XB T.l2.dft, XB T.l2.ll, XV.fz T.l2.srv.n 16 T.l2.srv.g, XV.fz T.l2.loc.n 18 T.l2.loc.g, XB T.l3.live, XI T.l3.gen, XV.fz T.l3.dom.n 1 fun (j : Nat) => [XT (T.l3.dom.g j)], XB T.l3.dft, XB T.l3.ll, XV.fz T.l3.srv.n 16 T.l3.srv.g, XV.fz T.l3.loc.n 18 T.l3.loc.g] = XV.agg [XB T.l0.live, XI T.l0.gen, XV.fz T.l0.dom.n 1 fun (j : Nat) => [XT (T.l0.dom.g j)], XB T.l0.dft, XB T.l0.ll, XV.fz T.l0.srv.n 16 T.l0.srv.g, XV.fz T.l0.loc.n 18 T.l0.loc.g, XB T.l1.live, XI T.l1.gen, XV.fz T.l1.dom.n 1 fun (j : Nat) => [XT (T.l1.dom.g j)], XB T.l1.dft, XB T.l1.ll, XV.fz T.l1.srv.n 16 T.l1.srv.g, XV.fz T.l1.loc.n 18 T.l1.loc.g, XB T.l2.live, XI T.l2.gen, XV.fz T.l2.dom.n 1 fun (j : Nat) => [XT (T.l2.dom.g j)], XB T.l2.dft, XB T.l2.ll, XV.fz T.l2.srv.n 16 T.l2.srv.g, XV.fz T.l2.loc.n 18 T.l2.loc.g, XB T.l3.live, XI T.l3.gen, XV.fz T.l3.dom.n 1 fun (j : Nat) => [XT (T.l3.dom.g j)], XB T.l3.dft, XB T.l3.ll, XV.fz T.l3.srv.n 16 T.l3.srv.g, XV.fz T.l3.loc.n 18 T.l3.loc.g] ∧ (↑p.i : Int) = (↑p.i : Int) ∧ (rtV_b T p) ∧ (↑(T.at p.i).dom.n : Int) = (↑(T.at p.i).dom.n : Int) ∧ (↑x_1.i : Int) + (1 : Int) = (↑x'.i : Int) ∧ (rtV_a T e ap) ∧ True)) ∧ (decide ((↑x_1.i : Int) < (↑(T.at p.i).dom.n : Int)) = false → in64 ((↑p.i : Int) + (1 : Int)) ∧ ∃ (x' : (rtA T s e ap).σ), x'.i.le 4 ∧ (4 : Nat) - x'.i < (4 : Nat) - x.i ∧ true = true ∧ XV.ptr 0 0 0 0 = XV.ptr 0 0 0 0 ∧ s = s ∧ bstN (T.at p.i).dom.g s (bstT T s p.i) x_1.i = bstT T s x'.i ∧ XV.agg [XB T.l0.live, XI T.l0.gen, XV.fz T.l0.dom.n 1 fun (j : Nat) => [XT (T.l0.dom.g j)], XB T.l0.dft, XB T.l0.ll, XV.fz T.l0.srv.n 16 T.l0.srv.g, XV.fz T.l0.loc.n 18 T.l0.loc.g, XB T.l1.live, XI T.l1.gen, XV.fz T.l1.dom.n 1 fun (j : Nat) => [XT (T.l1.dom.g j)], XB T.l1.dft, XB T.l1.ll, XV.fz T.l1.srv.n 16 T.l1.srv.g, XV.fz T.l1.loc.n 18 T.l1.loc.g, XB T.l2.live, XI T.l2.gen, XV.fz T.l2.dom.n 1 fun (j : Nat) => [XT (T.l2.dom.g j)], XB T.l2.dft, XB T.l2.ll, XV.fz T.l2.srv.n 16 T.l2.srv.g, XV.fz T.l2.loc.n 18 T.l2.loc.g, XB T.l3.live, XI T.l3.gen, XV.fz T.l3.dom.n 1 fun (j : Nat) => [XT (T.l3.dom.g j)], XB T.l3.dft, XB T.l3.ll, XV.fz T.l3.srv.n 16 T.l3.srv.g, XV.fz T.l3.loc.n 18 T.l3.loc.g] = XV.agg [XB T.l0.live, XI T.l0.gen, XV.fz T.l0.dom.n 1 fun (j : Nat) => [XT (T.l0.dom.g j)], XB T.l0.dft, XB T.l0.ll, XV.fz T.l0.srv.n 16 T.l0.srv.g, XV.fz T.l0.loc.n 18 T.l0.loc.g, XB T.l1.live, XI T.l1.gen, XV.fz T.l1.dom.n 1 fun (j : Nat) => [XT (T.l1.dom.g j)], XB T.l1.dft, XB T.l1.ll, XV.fz T.l1.srv.n 16 T.l1.srv.g, XV.fz T.l1.loc.n 18 T.l1.loc.g, XB T.l2.live, XI T.l2.gen, XV.fz T.l2.dom.n 1 fun (j : Nat) => [XT (T.l2.dom.g j)], XB T.l2.dft, XB T.l2.ll, XV.fz T.l2.srv.n 16 T.l2.srv.g, XV.fz T.l2.loc.n 18 T.l2.loc.g, XB T.l3.live, XI T.l3.gen, XV.fz T.l3.dom.n 1 fun (j : Nat) => [XT (T.l3.dom.g j)], XB T.l3.dft, XB T.l3.ll, XV.fz T.l3.srv.n 16 T.l3.srv.g, XV.fz T.l3.loc.n 18 T.l3.loc.g] ∧ (↑p.i : Int) + (1 : Int) = (↑x'.i : Int) ∧ (rtV_a T e ap) ∧ True)) ∧ ((↑x.i : Int) = (3 : Int) → (0 : Int) ≤ (3 : Int) ∧ (3 : Int) < (↑(4 : Nat) : Int) ∧ ∃ (p : { α := IL, J := rtB T s e ap : InvP }.α), (∃ (x_1 : ({ α := IL, J := rtB T s e ap : InvP }.J p).σ), (x_1.i ≤ (T.at p.i).dom.n ∧ p.i < (4 : Nat)) ∧ true = true ∧ XV.ptr 0 0 0 0 = XV.ptr 0 0 0 0 ∧ s = s ∧ bstT T s x.i = bstN (T.at p.i).dom.g s (bstT T s p.i) x_1.i ∧ XV.agg [XB T.l0.live, XI T.l0.gen, XV.fz T.l0.dom.n 1 fun (j : Nat) => [XT (T.l0.dom.g j)], XB T.l0.dft, XB T.l0.ll, XV.fz T.l0.srv.n 16 T.l0.srv.g, XV.fz T.l0.loc.n 18 T.l0.loc.g, XB T.l1.live, XI T.l1.gen, XV.fz T.l1.dom.n 1 fun (j : Nat) => [XT (T.l1.dom.g j)], XB T.l1.dft, XB T.l1.ll, XV.fz T.l1.srv.n 16 T.l1.srv.g, XV.fz T.l1.loc.n 18 T.l1.loc.g, XB T.l2.live, XI T.l2.gen, XV.fz T.l2.dom.n 1 fun (j : Nat) => [XT (T.l2.dom.g j)], XB T.l2.dft, XB T.l2.ll, XV.fz T.l2.srv.n 16 T.l2.srv.g, XV.fz T.l2.loc.n 18 T.l2.loc.g, XB T.l3.live, XI T.l3.gen, XV.fz T.l3.dom.n 1 fun (j : Nat) => [XT (T.l3.dom.g j)], XB T.l3.dft, XB T.l3.ll, XV.fz T.l3.srv.n 16 T.l3.srv.g, XV.fz T.l3.loc.n 18 T.l3.loc.g] = XV.agg [XB T.l0.live, XI T.l0.gen, XV.fz T.l0.dom.n 1 fun (j : Nat) => [XT (T.l0.dom.g j)], XB T.l0.dft, XB T.l0.ll, XV.fz T.l0.srv.n 16 T.l0.srv.g, XV.fz T.l0.loc.n 18 T.l0.loc.g, XB T.l1.live, XI T.l1.gen, XV.fz T.l1.dom.n 1 fun (j : Nat) => [XT (T.l1.dom.g j)], XB T.l1.dft, XB T.l1.ll, XV.fz T.l1.srv.n 16 T.l1.srv.g, XV.fz T.l1.loc.n 18 T.l1.loc.g, XB T.l2.live, XI T.l2.gen, XV.fz T.l2.dom.n 1 fun (j : Nat) => [XT (T.l2.dom.g j)], XB T.l2.dft, XB T.l2.ll, XV.fz T.l2.srv.n 16 T.l2.srv.g, XV.fz T.l2.loc.n 18 T.l2.loc.g, XB T.l3.live, XI T.l3.gen, XV.fz T.l3.dom.n 1 fun (j : Nat) => [XT (T.l3.dom.g j)], XB T.l3.dft, XB T.l3.ll, XV.fz T.l3.srv.n 16 T.l3.srv.g, XV.fz T.l3.loc.n 18 T.l3.loc.g] ∧ (3 : Int) = (↑p.i : Int) ∧ ((XV.fz T.l3.dom.n 1 fun (j : Nat) => [XT (T.l3.dom.g j)]) = XV.fz (T.at p.i).dom.n 1 fun (j : Nat) => [XT ((T.at p.i).dom.g j)]) ∧ (↑T.l3.dom.n : Int) = (↑(T.at p.i).dom.n : Int) ∧ (0 : Int) = (↑x_1.i : Int) ∧ (rtV_a T e ap) ∧ True) ∧ ∀ (x_1 : IL), x_1.i ≤ (T.at p.i).dom.n ∧ p.i < (4 : Nat) → (decide ((↑x_1.i : Int) < (↑(T.at p.i).dom.n : Int)) = true → (0 : Int) ≤ (↑x_1.i : Int) ∧ (↑x_1.i : Int) < (↑(T.at p.i).dom.n : Int) ∧ s.size ≤ (1000000 : Nat) ∧ ((T.at p.i).dom.g (↑x_1.i : Int).toNat).size ≤ (1000000 : Nat) ∧ (undB s ((T.at p.i).dom.g (↑x_1.i : Int).toNat) = true → ((T.at p.i).dom.g (↑x_1.i : Int).toNat).size ≤ (1000000 : Nat) ∧ in64 ((↑x_1.i : Int) + (1 : Int)) ∧ ∃ (x' : ({ α := IL, J := rtB T s e ap : InvP }.J p).σ), (x'.i ≤ (T.at p.i).dom.n ∧ p.i < (4 : Nat)) ∧ (T.at p.i).dom.n - x'.i < (T.at p.i).dom.n - x_1.i ∧ true = true ∧ XV.ptr 0 0 0 0 = XV.ptr 0 0 0 0 ∧ s = s ∧ imax (bstN (T.at p.i).dom.g s (bstT T s p.i) x_1.i) (cntL ((T.at p.i).dom.g (↑x_1.i : Int).toNat)) = bstN (T.at p.i).dom.g s (bstT T s p.i) x'.i ∧ XV.agg [XB T.l0.live, XI T.l0.gen, XV.fz T.l0.dom.n 1 fun (j : Nat) => [XT (T.l0.dom.g j)], XB T.l0.dft, XB T.l0.ll, XV.fz T.l0.srv.n 16 T.l0.srv.g, XV.fz T.l0.loc.n 18 T.l0.loc.g, XB T.l1.live, XI T.l1.gen, XV.fz T.l1.dom.n 1 fun (j : Nat) => [XT (T.l1.dom.g j)], XB T.l1.dft, XB T.l1.ll, XV.fz T.l1.srv.n 16 T.l1.srv.g, XV.fz T.l1.loc.n 18 T.l1.loc.g, XB T.l2.live, XI T.l2.gen, XV.fz T.l2.dom.n 1 fun (j : Nat) => [XT (T.l2.dom.g j)], XB T.l2.dft, XB T.l2.ll, XV.fz T.l2.srv.n 16 T.l2.srv.g, XV.fz T.l2.loc.n 18 T.l2.loc.g, XB T.l3.live, XI T.l3.gen, XV.fz T.l3.dom.n 1 fun (j : Nat) => [XT (T.l3.dom.g j)], XB T.l3.dft, XB T.l3.ll, XV.fz T.l3.srv.n 16 T.l3.srv.g, XV.fz T.l3.loc.n 18 T.l3.loc.g] = XV.agg [XB T.l0.live, XI T.l0.gen, XV.fz T.l0.dom.n 1 fun (j : Nat) => [XT (T.l0.dom.g j)], XB T.l0.dft, XB T.l0.ll, XV.fz T.l0.srv.n 16 T.l0.srv.g, XV.fz T.l0.loc.n 18 T.l0.loc.g, XB T.l1.live, XI T.l1.gen, XV.fz T.l1.dom.n 1 fun (j : Nat) => [XT (T.l1.dom.g j)], XB T.l1.dft, XB T.l1.ll, XV.fz T.l1.srv.n 16 T.l1.srv.g, XV.fz T.l1.loc.n 18 T.l1.loc.g, XB T.l2.live, XI T.l2.gen, XV.fz T.l2.dom.n 1 fun (j : Nat) => [XT (T.l2.dom.g j)], XB T.l2.dft, XB T.l2.ll, XV.fz T.l2.srv.n 16 T.l2.srv.g, XV.fz T.l2.loc.n 18 T.l2.loc.g, XB T.l3.live, XI T.l3.gen, XV.fz T.l3.dom.n 1 fun (j : Nat) => [XT (T.l3.dom.g j)], XB T.l3.dft, XB T.l3.ll, XV.fz T.l3.srv.n 16 T.l3.srv.g, XV.fz T.l3.loc.n 18 T.l3.loc.g] ∧ (↑p.i : Int) = (↑p.i : Int) ∧ (rtV_b T p) ∧ (↑(T.at p.i).dom.n : Int) = (↑(T.at p.i).dom.n : Int) ∧ (↑x_1.i : Int) + (1 : Int) = (↑x'.i : Int) ∧ (rtV_a T e ap) ∧ True) ∧ (undB s ((T.at p.i).dom.g (↑x_1.i : Int).toNat) = false → in64 ((↑x_1.i : Int) + (1 : Int)) ∧ ∃ (x' : ({ α := IL, J := rtB T s e ap : InvP }.J p).σ), (x'.i ≤ (T.at p.i).dom.n ∧ p.i < (4 : Nat)) ∧ (T.at p.i).dom.n - x'.i < (T.at p.i).dom.n - x_1.i ∧ true = true ∧ XV.ptr 0 0 0 0 = XV.ptr 0 0 0 0 ∧ s = s ∧ bstN (T.at p.i).dom.g s (bstT T s p.i) x_1.i = bstN (T.at p.i).dom.g s (bstT T s p.i) x'.i ∧ XV.agg [XB T.l0.live, XI T.l0.gen, XV.fz T.l0.dom.n 1 fun (j : Nat) => [XT (T.l0.dom.g j)], XB T.l0.dft, XB T.l0.ll, XV.fz T.l0.srv.n 16 T.l0.srv.g, XV.fz T.l0.loc.n 18 T.l0.loc.g, XB T.l1.live, XI T.l1.gen, XV.fz T.l1.dom.n 1 fun (j : Nat) => [XT (T.l1.dom.g j)], XB T.l1.dft, XB T.l1.ll, XV.fz T.l1.srv.n 16 T.l1.srv.g, XV.fz T.l1.loc.n 18 T.l1.loc.g, XB T.l2.live, XI T.l2.gen, XV.fz T.l2.dom.n 1 fun (j : Nat) => [XT (T.l2.dom.g j)], XB T.l2.dft, XB T.l2.ll, XV.fz T.l2.srv.n 16 T.l2.srv.g, XV.fz T.l2.loc.n 18 T.l2.loc.g, XB T.l3.live, XI T.l3.gen, XV.fz T.l3.dom.n 1 fun (j : Nat) => [XT (T.l3.dom.g j)], XB T.l3.dft, XB T.l3.ll, XV.fz T.l3.srv.n 16 T.l3.srv.g, XV.fz T.l3.loc.n 18 T.l3.loc.g] = XV.agg [XB T.l0.live, XI T.l0.gen, XV.fz T.l0.dom.n 1 fun (j : Nat) => [XT (T.l0.dom.g j)], XB T.l0.dft, XB T.l0.ll, XV.fz T.l0.srv.n 16 T.l0.srv.g, XV.fz T.l0.loc.n 18 T.l0.loc.g, XB T.l1.live, XI T.l1.gen, XV.fz T.l1.dom.n 1 fun (j : Nat) => [XT (T.l1.dom.g j)], XB T.l1.dft, XB T.l1.ll, XV.fz T.l1.srv.n 16 T.l1.srv.g, XV.fz T.l1.loc.n 18 T.l1.loc.g, XB T.l2.live, XI T.l2.gen, XV.fz T.l2.dom.n 1 fun (j : Nat) => [XT (T.l2.dom.g j)], XB T.l2.dft, XB T.l2.ll, XV.fz T.l2.srv.n 16 T.l2.srv.g, XV.fz T.l2.loc.n 18 T.l2.loc.g, XB T.l3.live, XI T.l3.gen, XV.fz T.l3.dom.n 1 fun (j : Nat) => [XT (T.l3.dom.g j)], XB T.l3.dft, XB T.l3.ll, XV.fz T.l3.srv.n 16 T.l3.srv.g, XV.fz T.l3.loc.n 18 T.l3.loc.g] ∧ (↑p.i : Int) = (↑p.i : Int) ∧ (rtV_b T p) ∧ (↑(T.at p.i).dom.n : Int) = (↑(T.at p.i).dom.n : Int) ∧ (↑x_1.i : Int) + (1 : Int) = (↑x'.i : Int) ∧ (rtV_a T e ap) ∧ True)) ∧ (decide ((↑x_1.i : Int) < (↑(T.at p.i).dom.n : Int)) = false → in64 ((↑p.i : Int) + (1 : Int)) ∧ ∃ (x' : (rtA T s e ap).σ), x'.i.le 4 ∧ (4 : Nat) - x'.i < (4 : Nat) - x.i ∧ true = true ∧ XV.ptr 0 0 0 0 = XV.ptr 0 0 0 0 ∧ s = s ∧ bstN (T.at p.i).dom.g s (bstT T s p.i) x_1.i = bstT T s x'.i ∧ XV.agg [XB T.l0.live, XI T.l0.gen, XV.fz T.l0.dom.n 1 fun (j : Nat) => [XT (T.l0.dom.g j)], XB T.l0.dft, XB T.l0.ll, XV.fz T.l0.srv.n 16 T.l0.srv.g, XV.fz T.l0.loc.n 18 T.l0.loc.g, XB T.l1.live, XI T.l1.gen, XV.fz T.l1.dom.n 1 fun (j : Nat) => [XT (T.l1.dom.g j)], XB T.l1.dft, XB T.l1.ll, XV.fz T.l1.srv.n 16 T.l1.srv.g, XV.fz T.l1.loc.n 18 T.l1.loc.g, XB T.l2.live, XI T.l2.gen, XV.fz T.l2.dom.n 1 fun (j : Nat) => [XT (T.l2.dom.g j)], XB T.l2.dft, XB T.l2.ll, XV.fz T.l2.srv.n 16 T.l2.srv.g, XV.fz T.l2.loc.n 18 T.l2.loc.g, XB T.l3.live, XI T.l3.gen, XV.fz T.l3.dom.n 1 fun (j : Nat) => [XT (T.l3.dom.g j)], XB T.l3.dft, XB T.l3.ll, XV.fz T.l3.srv.n 16 T.l3.srv.g, XV.fz T.l3.loc.n 18 T.l3.loc.g] = XV.agg [XB T.l0.live, XI T.l0.gen, XV.fz T.l0.dom.n 1 fun (j : Nat) => [XT (T.l0.dom.g j)], XB T.l0.dft, XB T.l0.ll, XV.fz T.l0.srv.n 16 T.l0.srv.g, XV.fz T.l0.loc.n 18 T.l0.loc.g, XB T.l1.live, XI T.l1.gen, XV.fz T.l1.dom.n 1 fun (j : Nat) => [XT (T.l1.dom.g j)], XB T.l1.dft, XB T.l1.ll, XV.fz T.l1.srv.n 16 T.l1.srv.g, XV.fz T.l1.loc.n 18 T.l1.loc.g, XB T.l2.live, XI T.l2.gen, XV.fz T.l2.dom.n 1 fun (j : Nat) => [XT (T.l2.dom.g j)], XB T.l2.dft, XB T.l2.ll, XV.fz T.l2.srv.n 16 T.l2.srv.g, XV.fz T.l2.loc.n 18 T.l2.loc.g, XB T.l3.live, XI T.l3.gen, XV.fz T.l3.dom.n 1 fun (j : Nat) => [XT (T.l3.dom.g j)], XB T.l3.dft, XB T.l3.ll, XV.fz T.l3.srv.n 16 T.l3.srv.g, XV.fz T.l3.loc.n 18 T.l3.loc.g] ∧ (↑p.i : Int) + (1 : Int) = (↑x'.i : Int) ∧ (rtV_a T e ap) ∧ True)) ∧ True) ∧ (decide ((↑x.i : Int) < (4 : Int)) = false → (∃ (x_1 : (rtC T s e ap (bstT T s 4)).σ), x_1.i.le 4 ∧ true = true ∧ s = s ∧ bstT T s x.i = bstT T s 4 ∧ XV.sl 1 1 0 0 = XV.sl 1 1 0 (lenI (rtL T s (bstT T s 4) x_1.i)) ∧ XV.agg [XB T.l0.live, XI T.l0.gen, XV.fz T.l0.dom.n 1 fun (j : Nat) => [XT (T.l0.dom.g j)], XB T.l0.dft, XB T.l0.ll, XV.fz T.l0.srv.n 16 T.l0.srv.g, XV.fz T.l0.loc.n 18 T.l0.loc.g, XB T.l1.live, XI T.l1.gen, XV.fz T.l1.dom.n 1 fun (j : Nat) => [XT (T.l1.dom.g j)], XB T.l1.dft, XB T.l1.ll, XV.fz T.l1.srv.n 16 T.l1.srv.g, XV.fz T.l1.loc.n 18 T.l1.loc.g, XB T.l2.live, XI T.l2.gen, XV.fz T.l2.dom.n 1 fun (j : Nat) => [XT (T.l2.dom.g j)], XB T.l2.dft, XB T.l2.ll, XV.fz T.l2.srv.n 16 T.l2.srv.g, XV.fz T.l2.loc.n 18 T.l2.loc.g, XB T.l3.live, XI T.l3.gen, XV.fz T.l3.dom.n 1 fun (j : Nat) => [XT (T.l3.dom.g j)], XB T.l3.dft, XB T.l3.ll, XV.fz T.l3.srv.n 16 T.l3.srv.g, XV.fz T.l3.loc.n 18 T.l3.loc.g] = XV.agg [XB T.l0.live, XI T.l0.gen, XV.fz T.l0.dom.n 1 fun (j : Nat) => [XT (T.l0.dom.g j)], XB T.l0.dft, XB T.l0.ll, XV.fz T.l0.srv.n 16 T.l0.srv.g, XV.fz T.l0.loc.n 18 T.l0.loc.g, XB T.l1.live, XI T.l1.gen, XV.fz T.l1.dom.n 1 fun (j : Nat) => [XT (T.l1.dom.g j)], XB T.l1.dft, XB T.l1.ll, XV.fz T.l1.srv.n 16 T.l1.srv.g, XV.fz T.l1.loc.n 18 T.l1.loc.g, XB T.l2.live, XI T.l2.gen, XV.fz T.l2.dom.n 1 fun (j : Nat) => [XT (T.l2.dom.g j)], XB T.l2.dft, XB T.l2.ll, XV.fz T.l2.srv.n 16 T.l2.srv.g, XV.fz T.l2.loc.n 18 T.l2.loc.g, XB T.l3.live, XI T.l3.gen, XV.fz T.l3.dom.n 1 fun (j : Nat) => [XT (T.l3.dom.g j)], XB T.l3.dft, XB T.l3.ll, XV.fz T.l3.srv.n 16 T.l3.srv.g, XV.fz T.l3.loc.n 18 T.l3.loc.g] ∧ (0 : Int) = (↑x_1.i : Int) ∧ (rtV_a T e ap) ∧ (((3 : Nat) = (3 : TypeId) ∧ true = true ∧ (1 : Nat) = (1 : Nat)) ∧ (0 : Nat) = lenI (rtL T s (bstT T s 4) x_1.i) ∧ ∀ (j : Nat), j < (0 : Nat) → [] = [XI (getI (rtL T s (bstT T s 4) x_1.i) j)]) ∧ True) ∧ ∀ (x : IL), x.i.le 4 → (decide ((↑x.i : Int) < (4 : Int)) = true → ((↑x.i : Int) = (0 : Int) ∨ (↑x.i : Int) = (1 : Int) ∨ (↑x.i : Int) = (2 : Int) ∨ (↑x.i : Int) = (3 : Int) ∨ False) ∧ ((↑x.i : Int) = (0 : Int) → (0 : Int) ≤ (0 : Int) ∧ (0 : Int) < (↑(4 : Nat) : Int) ∧ ∃ (p : { α := IL, J := rtD T s e ap (bstT T s 4) : InvP }.α), (∃ (x_1 : ({ α := IL, J := rtD T s e ap (bstT T s 4) : InvP }.J p).σ), (x_1.i ≤ (T.at p.i).dom.n ∧ p.i < (4 : Nat)) ∧ true = true ∧ s = s ∧ bstT T s 4 = bstT T s 4 ∧ XV.sl 1 1 0 (lenI (rtL T s (bstT T s 4) x.i)) = XV.sl 1 1 0 (lenI (rtL T s (bstT T s 4) p.i)) ∧ (0 : Int) = (↑p.i : Int) ∧ XV.ptr 2 0 0 0 = XV.ptr 2 0 0 0 ∧ (decide (bstT T s 4 < (0 : Int)) && T.l0.dft) = useN (T.at p.i).dom.g s (bstT T s 4) (rtV_c T s p) x_1.i ∧ XV.agg [XB T.l0.live, XI T.l0.gen, XV.fz T.l0.dom.n 1 fun (j : Nat) => [XT (T.l0.dom.g j)], XB T.l0.dft, XB T.l0.ll, XV.fz T.l0.srv.n 16 T.l0.srv.g, XV.fz T.l0.loc.n 18 T.l0.loc.g, XB T.l1.live, XI T.l1.gen, XV.fz T.l1.dom.n 1 fun (j : Nat) => [XT (T.l1.dom.g j)], XB T.l1.dft, XB T.l1.ll, XV.fz T.l1.srv.n 16 T.l1.srv.g, XV.fz T.l1.loc.n 18 T.l1.loc.g, XB T.l2.live, XI T.l2.gen, XV.fz T.l2.dom.n 1 fun (j : Nat) => [XT (T.l2.dom.g j)], XB T.l2.dft, XB T.l2.ll, XV.fz T.l2.srv.n 16 T.l2.srv.g, XV.fz T.l2.loc.n 18 T.l2.loc.g, XB T.l3.live, XI T.l3.gen, XV.fz T.l3.dom.n 1 fun (j : Nat) => [XT (T.l3.dom.g j)], XB T.l3.dft, XB T.l3.ll, XV.fz T.l3.srv.n 16 T.l3.srv.g, XV.fz T.l3.loc.n 18 T.l3.loc.g] = XV.agg [XB T.l0.live, XI T.l0.gen, XV.fz T.l0.dom.n 1 fun (j : Nat) => [XT (T.l0.dom.g j)], XB T.l0.dft, XB T.l0.ll, XV.fz T.l0.srv.n 16 T.l0.srv.g, XV.fz T.l0.loc.n 18 T.l0.loc.g, XB T.l1.live, XI T.l1.gen, XV.fz T.l1.dom.n 1 fun (j : Nat) => [XT (T.l1.dom.g j)], XB T.l1.dft, XB T.l1.ll, XV.fz T.l1.srv.n 16 T.l1.srv.g, XV.fz T.l1.loc.n 18 T.l1.loc.g, XB T.l2.live, XI T.l2.gen, XV.fz T.l2.dom.n 1 fun (j : Nat) => [XT (T.l2.dom.g j)], XB T.l2.dft, XB T.l2.ll, XV.fz T.l2.srv.n 16 T.l2.srv.g, XV.fz T.l2.loc.n 18 T.l2.loc.g, XB T.l3.live, XI T.l3.gen, XV.fz T.l3.dom.n 1 fun (j : Nat) => [XT (T.l3.dom.g j)], XB T.l3.dft, XB T.l3.ll, XV.fz T.l3.srv.n 16 T.l3.srv.g, XV.fz T.l3.loc.n 18 T.l3.loc.g] ∧ (0 : Int) = (↑p.i : Int) ∧ ((XV.fz T.l0.dom.n 1 fun (j : Nat) => [XT (T.l0.dom.g j)]) = XV.fz (T.at p.i).dom.n 1 fun (j : Nat) => [XT ((T.at p.i).dom.g j)]) ∧ (↑T.l0.dom.n : Int) = (↑(T.at p.i).dom.n : Int) ∧ (0 : Int) = (↑x_1.i : Int) ∧ (rtV_a T e ap) ∧ (rtV_e ∧ lenI (rtL T s (bstT T s 4) x.i) = lenI (rtL T s (bstT T s 4) p.i) ∧ ∀ (j : Nat), j < lenI (rtL T s (bstT T s 4) x.i) → [XI (getI (rtL T s (bstT T s 4) x.i) j)] = [XI (getI (rtL T s (bstT T s 4) p.i) j)]) ∧ (((26 : Nat) = (26 : TypeId) ∧ true = true) ∧ T.l0.live = (T.at p.i).live ∧ T.l0.gen = (T.at p.i).gen ∧ ((XV.fz T.l0.dom.n 1 fun (j : Nat) => [XT (T.l0.dom.g j)]) = XV.fz (T.at p.i).dom.n 1 fun (j : Nat) => [XT ((T.at p.i).dom.g j)]) ∧ T.l0.dft = (T.at p.i).dft ∧ T.l0.ll = (T.at p.i).ll ∧ XV.fz T.l0.srv.n 16 T.l0.srv.g = XV.fz (T.at p.i).srv.n 16 (T.at p.i).srv.g ∧ XV.fz T.l0.loc.n 18 T.l0.loc.g = XV.fz (T.at p.i).loc.n 18 (T.at p.i).loc.g ∧ True) ∧ True) ∧ ∀ (x_1 : IL), x_1.i ≤ (T.at p.i).dom.n ∧ p.i < (4 : Nat) → (decide ((↑x_1.i : Int) < (↑(T.at p.i).dom.n : Int)) = true → (0 : Int) ≤ (↑x_1.i : Int) ∧ (↑x_1.i : Int) < (↑(T.at p.i).dom.n : Int) ∧ ((rtV_h T s p x_1) = true → s.size ≤ (1000000 : Nat)) ∧ ((rtV_h T s p x_1) = true → ((T.at p.i).dom.g (↑x_1.i : Int).toNat).size ≤ (1000000 : Nat)) ∧ (rtV_g T s p x_1) ∧ in64 ((↑x_1.i : Int) + (1 : Int)) ∧ ∃ (x' : ({ α := IL, J := rtD T s e ap (bstT T s 4) : InvP }.J p).σ), (x'.i ≤ (T.at p.i).dom.n ∧ p.i < (4 : Nat)) ∧ (T.at p.i).dom.n - x'.i < (T.at p.i).dom.n - x_1.i ∧ true = true ∧ s = s ∧ bstT T s 4 = bstT T s 4 ∧ XV.sl 1 1 0 (lenI (rtL T s (bstT T s 4) p.i)) = XV.sl 1 1 0 (lenI (rtL T s (bstT T s 4) p.i)) ∧ (↑p.i : Int) = (↑p.i : Int) ∧ XV.ptr 2 0 0 0 = XV.ptr 2 0 0 0 ∧ (rtV_i T s p x_1) = useN (T.at p.i).dom.g s (bstT T s 4) (rtV_c T s p) x'.i ∧ XV.agg [XB T.l0.live, XI T.l0.gen, XV.fz T.l0.dom.n 1 fun (j : Nat) => [XT (T.l0.dom.g j)], XB T.l0.dft, XB T.l0.ll, XV.fz T.l0.srv.n 16 T.l0.srv.g, XV.fz T.l0.loc.n 18 T.l0.loc.g, XB T.l1.live, XI T.l1.gen, XV.fz T.l1.dom.n 1 fun (j : Nat) => [XT (T.l1.dom.g j)], XB T.l1.dft, XB T.l1.ll, XV.fz T.l1.srv.n 16 T.l1.srv.g, XV.fz T.l1.loc.n 18 T.l1.loc.g, XB T.l2.live, XI T.l2.gen, XV.fz T.l2.dom.n 1 fun (j : Nat) => [XT (T.l2.dom.g j)], XB T.l2.dft, XB T.l2.ll, XV.fz T.l2.srv.n 16 T.l2.srv.g, XV.fz T.l2.loc.n 18 T.l2.loc.g, XB T.l3.live, XI T.l3.gen, XV.fz T.l3.dom.n 1 fun (j : Nat) => [XT (T.l3.dom.g j)], XB T.l3.dft, XB T.l3.ll, XV.fz T.l3.srv.n 16 T.l3.srv.g, XV.fz T.l3.loc.n 18 T.l3.loc.g] = XV.agg [XB T.l0.live, XI T.l0.gen, XV.fz T.l0.dom.n 1 fun (j : Nat) => [XT (T.l0.dom.g j)], XB T.l0.dft, XB T.l0.ll, XV.fz T.l0.srv.n 16 T.l0.srv.g, XV.fz T.l0.loc.n 18 T.l0.loc.g, XB T.l1.live, XI T.l1.gen, XV.fz T.l1.dom.n 1 fun (j : Nat) => [XT (T.l1.dom.g j)], XB T.l1.dft, XB T.l1.ll, XV.fz T.l1.srv.n 16 T.l1.srv.g, XV.fz T.l1.loc.n 18 T.l1.loc.g, XB T.l2.live, XI T.l2.gen, XV.fz T.l2.dom.n 1 fun (j : Nat) => [XT (T.l2.dom.g j)], XB T.l2.dft, XB T.l2.ll, XV.fz T.l2.srv.n 16 T.l2.srv.g, XV.fz T.l2.loc.n 18 T.l2.loc.g, XB T.l3.live, XI T.l3.gen, XV.fz T.l3.dom.n 1 fun (j : Nat) => [XT (T.l3.dom.g j)], XB T.l3.dft, XB T.l3.ll, XV.fz T.l3.srv.n 16 T.l3.srv.g, XV.fz T.l3.loc.n 18 T.l3.loc.g] ∧ (↑p.i : Int) = (↑p.i : Int) ∧ (rtV_b T p) ∧ (↑(T.at p.i).dom.n : Int) = (↑(T.at p.i).dom.n : Int) ∧ (↑x_1.i : Int) + (1 : Int) = (↑x'.i : Int) ∧ (rtV_a T e ap) ∧ (rtV_e ∧ lenI (rtL T s (bstT T s 4) p.i) = lenI (rtL T s (bstT T s 4) p.i) ∧ ∀ (j : Nat), j < lenI (rtL T s (bstT T s 4) p.i) → [XI (getI (rtL T s (bstT T s 4) p.i) j)] = [XI (getI (rtL T s (bstT T s 4) p.i) j)]) ∧ (rtV_d T p) ∧ True) ∧ (decide ((↑x_1.i : Int) < (↑(T.at p.i).dom.n : Int)) = false → ((rtV_f T s p x_1) = true → lenI (rtL T s (bstT T s 4) p.i) = lenI (rtL T s (bstT T s 4) p.i) ∧ (lenI (rtL T s (bstT T s 4) p.i) + (1 : Nat)) * (8 : Nat) ≤ (140737488355328 : Nat) ∧ lenI (rtL T s (bstT T s 4) p.i) + (1 : Nat) ≤ (140737488355328 : Nat) ∧ in64 ((↑p.i : Int) + (1 : Int)) ∧ ∃ (x' : (rtC T s e ap (bstT T s 4)).σ), x'.i.le 4 ∧ (4 : Nat) - x'.i < (4 : Nat) - x.i ∧ true = true ∧ s = s ∧ bstT T s 4 = bstT T s 4 ∧ XV.sl 1 1 0 (lenI (rtL T s (bstT T s 4) p.i) + (1 : Nat)) = XV.sl 1 1 0 (lenI (rtL T s (bstT T s 4) x'.i)) ∧ XV.agg [XB T.l0.live, XI T.l0.gen, XV.fz T.l0.dom.n 1 fun (j : Nat) => [XT (T.l0.dom.g j)], XB T.l0.dft, XB T.l0.ll, XV.fz T.l0.srv.n 16 T.l0.srv.g, XV.fz T.l0.loc.n 18 T.l0.loc.g, XB T.l1.live, XI T.l1.gen, XV.fz T.l1.dom.n 1 fun (j : Nat) => [XT (T.l1.dom.g j)], XB T.l1.dft, XB T.l1.ll, XV.fz T.l1.srv.n 16 T.l1.srv.g, XV.fz T.l1.loc.n 18 T.l1.loc.g, XB T.l2.live, XI T.l2.gen, XV.fz T.l2.dom.n 1 fun (j : Nat) => [XT (T.l2.dom.g j)], XB T.l2.dft, XB T.l2.ll, XV.fz T.l2.srv.n 16 T.l2.srv.g, XV.fz T.l2.loc.n 18 T.l2.loc.g, XB T.l3.live, XI T.l3.gen, XV.fz T.l3.dom.n 1 fun (j : Nat) => [XT (T.l3.dom.g j)], XB T.l3.dft, XB T.l3.ll, XV.fz T.l3.srv.n 16 T.l3.srv.g, XV.fz T.l3.loc.n 18 T.l3.loc.g] = XV.agg [XB T.l0.live, XI T.l0.gen, XV.fz T.l0.dom.n 1 fun (j : Nat) => [XT (T.l0.dom.g j)], XB T.l0.dft, XB T.l0.ll, XV.fz T.l0.srv.n 16 T.l0.srv.g, XV.fz T.l0.loc.n 18 T.l0.loc.g, XB T.l1.live, XI T.l1.gen, XV.fz T.l1.dom.n 1 fun (j : Nat) => [XT (T.l1.dom.g j)], XB T.l1.dft, XB T.l1.ll, XV.fz T.l1.srv.n 16 T.l1.srv.g, XV.fz T.l1.loc.n 18 T.l1.loc.g, XB T.l2.live, XI T.l2.gen, XV.fz T.l2.dom.n 1 fun (j : Nat) => [XT (T.l2.dom.g j)], XB T.l2.dft, XB T.l2.ll, XV.fz T.l2.srv.n 16 T.l2.srv.g, XV.fz T.l2.loc.n 18 T.l2.loc.g, XB T.l3.live, XI T.l3.gen, XV.fz T.l3.dom.n 1 fun (j : Nat) => [XT (T.l3.dom.g j)], XB T.l3.dft, XB T.l3.ll, XV.fz T.l3.srv.n 16 T.l3.srv.g, XV.fz T.l3.loc.n 18 T.l3.loc.g] ∧ (↑p.i : Int) + (1 : Int) = (↑x'.i : Int) ∧ (rtV_a T e ap) ∧ (rtV_e ∧ lenI (rtL T s (bstT T s 4) p.i) + (1 : Nat) = lenI (rtL T s (bstT T s 4) x'.i) ∧ ∀ (j : Nat), j < lenI (rtL T s (bstT T s 4) p.i) + (1 : Nat) → [Bool.rec (XI (↑p.i : Int)) (XI (getI (rtL T s (bstT T s 4) p.i) j)) (j.blt (lenI (rtL T s (bstT T s 4) p.i)))] = [XI (getI (rtL T s (bstT T s 4) x'.i) j)]) ∧ True) ∧ ((rtV_f T s p x_1) = false → in64 ((↑p.i : Int) + (1 : Int)) ∧ ∃ (x' : (rtC T s e ap (bstT T s 4)).σ), x'.i.le 4 ∧ (4 : Nat) - x'.i < (4 : Nat) - x.i ∧ true = true ∧ s = s ∧ bstT T s 4 = bstT T s 4 ∧ XV.sl 1 1 0 (lenI (rtL T s (bstT T s 4) p.i)) = XV.sl 1 1 0 (lenI (rtL T s (bstT T s 4) x'.i)) ∧ XV.agg [XB T.l0.live, XI T.l0.gen, XV.fz T.l0.dom.n 1 fun (j : Nat) => [XT (T.l0.dom.g j)], XB T.l0.dft, XB T.l0.ll, XV.fz T.l0.srv.n 16 T.l0.srv.g, XV.fz T.l0.loc.n 18 T.l0.loc.g, XB T.l1.live, XI T.l1.gen, XV.fz T.l1.dom.n 1 fun (j : Nat) => [XT (T.l1.dom.g j)], XB T.l1.dft, XB T.l1.ll, XV.fz T.l1.srv.n 16 T.l1.srv.g, XV.fz T.l1.loc.n 18 T.l1.loc.g, XB T.l2.live, XI T.l2.gen, XV.fz T.l2.dom.n 1 fun (j : Nat) => [XT (T.l2.dom.g j)], XB T.l2.dft, XB T.l2.ll, XV.fz T.l2.srv.n 16 T.l2.srv.g, XV.fz T.l2.loc.n 18 T.l2.loc.g, XB T.l3.live, XI T.l3.gen, XV.fz T.l3.dom.n 1 fun (j : Nat) => [XT (T.l3.dom.g j)], XB T.l3.dft, XB T.l3.ll, XV.fz T.l3.srv.n 16 T.l3.srv.g, XV.fz T.l3.loc.n 18 T.l3.loc.g] = XV.agg [XB T.l0.live, XI T.l0.gen, XV.fz T.l0.dom.n 1 fun (j : Nat) => [XT (T.l0.dom.g j)], XB T.l0.dft, XB T.l0.ll, XV.fz T.l0.srv.n 16 T.l0.srv.g, XV.fz T.l0.loc.n 18 T.l0.loc.g, XB T.l1.live, XI T.l1.gen, XV.fz T.l1.dom.n 1 fun (j : Nat) => [XT (T.l1.dom.g j)], XB T.l1.dft, XB T.l1.ll, XV.fz T.l1.srv.n 16 T.l1.srv.g, XV.fz T.l1.loc.n 18 T.l1.loc.g, XB T.l2.live, XI T.l2.gen, XV.fz T.l2.dom.n 1 fun (j : Nat) => [XT (T.l2.dom.g j)], XB T.l2.dft, XB T.l2.ll, XV.fz T.l2.srv.n 16 T.l2.srv.g, XV.fz T.l2.loc.n 18 T.l2.loc.g, XB T.l3.live, XI T.l3.gen, XV.fz T.l3.dom.n 1 fun (j : Nat) => [XT (T.l3.dom.g j)], XB T.l3.dft, XB T.l3.ll, XV.fz T.l3.srv.n 16 T.l3.srv.g, XV.fz T.l3.loc.n 18 T.l3.loc.g] ∧ (↑p.i : Int) + (1 : Int) = (↑x'.i : Int) ∧ (rtV_a T e ap) ∧ (rtV_e ∧ lenI (rtL T s (bstT T s 4) p.i) = lenI (rtL T s (bstT T s 4) x'.i) ∧ ∀ (j : Nat), j < lenI (rtL T s (bstT T s 4) p.i) → [XI (getI (rtL T s (bstT T s 4) p.i) j)] = [XI (getI (rtL T s (bstT T s 4) x'.i) j)]) ∧ True))) ∧ ((↑x.i : Int) = (1 : Int) → (0 : Int) ≤ (1 : Int) ∧ (1 : Int) < (↑(4 : Nat) : Int) ∧ ∃ (p : { α := IL, J := rtD T s e ap (bstT T s 4) : InvP }.α), (∃ (x_1 : ({ α := IL, J := rtD T s e ap (bstT T s 4) : InvP }.J p).σ), (x_1.i ≤ (T.at p.i).dom.n ∧ p.i < (4 : Nat)) ∧ true = true ∧ s = s ∧ bstT T s 4 = bstT T s 4 ∧ XV.sl 1 1 0 (lenI (rtL T s (bstT T s 4) x.i)) = XV.sl 1 1 0 (lenI (rtL T s (bstT T s 4) p.i)) ∧ (1 : Int) = (↑p.i : Int) ∧ XV.ptr 2 0 0 0 = XV.ptr 2 0 0 0 ∧ (decide (bstT T s 4 < (0 : Int)) && T.l1.dft) = useN (T.at p.i).dom.g s (bstT T s 4) (rtV_c T s p) x_1.i ∧ XV.agg [XB T.l0.live, XI T.l0.gen, XV.fz T.l0.dom.n 1 fun (j : Nat) => [XT (T.l0.dom.g j)], XB T.l0.dft, XB T.l0.ll, XV.fz T.l0.srv.n 16 T.l0.srv.g, XV.fz T.l0.loc.n 18 T.l0.loc.g, XB T.l1.live, XI T.l1.gen, XV.fz T.l1.dom.n 1 fun (j : Nat) => [XT (T.l1.dom.g j)], XB T.l1.dft, XB T.l1.ll, XV.fz T.l1.srv.n 16 T.l1.srv.g, XV.fz T.l1.loc.n 18 T.l1.loc.g, XB T.l2.live, XI T.l2.gen, XV.fz T.l2.dom.n 1 fun (j : Nat) => [XT (T.l2.dom.g j)], XB T.l2.dft, XB T.l2.ll, XV.fz T.l2.srv.n 16 T.l2.srv.g, XV.fz T.l2.loc.n 18 T.l2.loc.g, XB T.l3.live, XI T.l3.gen, XV.fz T.l3.dom.n 1 fun (j : Nat) => [XT (T.l3.dom.g j)], XB T.l3.dft, XB T.l3.ll, XV.fz T.l3.srv.n 16 T.l3.srv.g, XV.fz T.l3.loc.n 18 T.l3.loc.g] = XV.agg [XB T.l0.live, XI T.l0.gen, XV.fz T.l0.dom.n 1 fun (j : Nat) => [XT (T.l0.dom.g j)], XB T.l0.dft, XB T.l0.ll, XV.fz T.l0.srv.n 16 T.l0.srv.g, XV.fz T.l0.loc.n 18 T.l0.loc.g, XB T.l1.live, XI T.l1.gen, XV.fz T.l1.dom.n 1 fun (j : Nat) => [XT (T.l1.dom.g j)], XB T.l1.dft, XB T.l1.ll, XV.fz T.l1.srv.n 16 T.l1.srv.g, XV.fz T.l1.loc.n 18 T.l1.loc.g, XB T.l2.live, XI T.l2.gen, XV.fz T.l2.dom.n 1 fun (j : Nat) => [XT (T.l2.dom.g j)], XB T.l2.dft, XB T.l2.ll, XV.fz T.l2.srv.n 16 T.l2.srv.g, XV.fz T.l2.loc.n 18 T.l2.loc.g, XB T.l3.live, XI T.l3.gen, XV.fz T.l3.dom.n 1 fun (j : Nat) => [XT (T.l3.dom.g j)], XB T.l3.dft, XB T.l3.ll, XV.fz T.l3.srv.n 16 T.l3.srv.g, XV.fz T.l3.loc.n 18 T.l3.loc.g] ∧ (1 : Int) = (↑p.i : Int) ∧ ((XV.fz T.l1.dom.n 1 fun (j : Nat) => [XT (T.l1.dom.g j)]) = XV.fz (T.at p.i).dom.n 1 fun (j : Nat) => [XT ((T.at p.i).dom.g j)]) ∧ (↑T.l1.dom.n : Int) = (↑(T.at p.i).dom.n : Int) ∧ (0 : Int) = (↑x_1.i : Int) ∧ (rtV_a T e ap) ∧ (rtV_e ∧ lenI (rtL T s (bstT T s 4) x.i) = lenI (rtL T s (bstT T s 4) p.i) ∧ ∀ (j : Nat), j < lenI (rtL T s (bstT T s 4) x.i) → [XI (getI (rtL T s (bstT T s 4) x.i) j)] = [XI (getI (rtL T s (bstT T s 4) p.i) j)]) ∧ (((26 : Nat) = (26 : TypeId) ∧ true = true) ∧ T.l1.live = (T.at p.i).live ∧ T.l1.gen = (T.at p.i).gen ∧ ((XV.fz T.l1.dom.n 1 fun (j : Nat) => [XT (T.l1.dom.g j)]) = XV.fz (T.at p.i).dom.n 1 fun (j : Nat) => [XT ((T.at p.i).dom.g j)]) ∧ T.l1.dft = (T.at p.i).dft ∧ T.l1.ll = (T.at p.i).ll ∧ XV.fz T.l1.srv.n 16 T.l1.srv.g = XV.fz (T.at p.i).srv.n 16 (T.at p.i).srv.g ∧ XV.fz T.l1.loc.n 18 T.l1.loc.g = XV.fz (T.at p.i).loc.n 18 (T.at p.i).loc.g ∧ True) ∧ True) ∧ ∀ (x_1 : IL), x_1.i ≤ (T.at p.i).dom.n ∧ p.i < (4 : Nat) → (decide ((↑x_1.i : Int) < (↑(T.at p.i).dom.n : Int)) = true → (0 : Int) ≤ (↑x_1.i : Int) ∧ (↑x_1.i : Int) < (↑(T.at p.i).dom.n : Int) ∧ ((rtV_h T s p x_1) = true → s.size ≤ (1000000 : Nat)) ∧ ((rtV_h T s p x_1) = true → ((T.at p.i).dom.g (↑x_1.i : Int).toNat).size ≤ (1000000 : Nat)) ∧ (rtV_g T s p x_1) ∧ in64 ((↑x_1.i : Int) + (1 : Int)) ∧ ∃ (x' : ({ α := IL, J := rtD T s e ap (bstT T s 4) : InvP }.J p).σ), (x'.i ≤ (T.at p.i).dom.n ∧ p.i < (4 : Nat)) ∧ (T.at p.i).dom.n - x'.i < (T.at p.i).dom.n - x_1.i ∧ true = true ∧ s = s ∧ bstT T s 4 = bstT T s 4 ∧ XV.sl 1 1 0 (lenI (rtL T s (bstT T s 4) p.i)) = XV.sl 1 1 0 (lenI (rtL T s (bstT T s 4) p.i)) ∧ (↑p.i : Int) = (↑p.i : Int) ∧ XV.ptr 2 0 0 0 = XV.ptr 2 0 0 0 ∧ (rtV_i T s p x_1) = useN (T.at p.i).dom.g s (bstT T s 4) (rtV_c T s p) x'.i ∧ XV.agg [XB T.l0.live, XI T.l0.gen, XV.fz T.l0.dom.n 1 fun (j : Nat) => [XT (T.l0.dom.g j)], XB T.l0.dft, XB T.l0.ll, XV.fz T.l0.srv.n 16 T.l0.srv.g, XV.fz T.l0.loc.n 18 T.l0.loc.g, XB T.l1.live, XI T.l1.gen, XV.fz T.l1.dom.n 1 fun (j : Nat) => [XT (T.l1.dom.g j)], XB T.l1.dft, XB T.l1.ll, XV.fz T.l1.srv.n 16 T.l1.srv.g, XV.fz T.l1.loc.n 18 T.l1.loc.g, XB T.l2.live, XI T.l2.gen, XV.fz T.l2.dom.n 1 fun (j : Nat) => [XT (T.l2.dom.g j)], XB T.l2.dft, XB T.l2.ll, XV.fz T.l2.srv.n 16 T.l2.srv.g, XV.fz T.l2.loc.n 18 T.l2.loc.g, XB T.l3.live, XI T.l3.gen, XV.fz T.l3.dom.n 1 fun (j : Nat) => [XT (T.l3.dom.g j)], XB T.l3.dft, XB T.l3.ll, XV.fz T.l3.srv.n 16 T.l3.srv.g, XV.fz T.l3.loc.n 18 T.l3.loc.g] = XV.agg [XB T.l0.live, XI T.l0.gen, XV.fz T.l0.dom.n 1 fun (j : Nat) => [XT (T.l0.dom.g j)], XB T.l0.dft, XB T.l0.ll, XV.fz T.l0.srv.n 16 T.l0.srv.g, XV.fz T.l0.loc.n 18 T.l0.loc.g, XB T.l1.live, XI T.l1.gen, XV.fz T.l1.dom.n 1 fun (j : Nat) => [XT (T.l1.dom.g j)], XB T.l1.dft, XB T.l1.ll, XV.fz T.l1.srv.n 16 T.l1.srv.g, XV.fz T.l1.loc.n 18 T.l1.loc.g, XB T.l2.live, XI T.l2.gen, XV.fz T.l2.dom.n 1 fun (j : Nat) => [XT (T.l2.dom.g j)], XB T.l2.dft, XB T.l2.ll, XV.fz T.l2.srv.n 16 T.l2.srv.g, XV.fz T.l2.loc.n 18 T.l2.loc.g, XB T.l3.live, XI T.l3.gen, XV.fz T.l3.dom.n 1 fun (j : Nat) => [XT (T.l3.dom.g j)], XB T.l3.dft, XB T.l3.ll, XV.fz T.l3.srv.n 16 T.l3.srv.g, XV.fz T.l3.loc.n 18 T.l3.loc.g] ∧ (↑p.i : Int) = (↑p.i : Int) ∧ (rtV_b T p) ∧ (↑(T.at p.i).dom.n : Int) = (↑(T.at p.i).dom.n : Int) ∧ (↑x_1.i : Int) + (1 : Int) = (↑x'.i : Int) ∧ (rtV_a T e ap) ∧ (rtV_e ∧ lenI (rtL T s (bstT T s 4) p.i) = lenI (rtL T s (bstT T s 4) p.i) ∧ ∀ (j : Nat), j < lenI (rtL T s (bstT T s 4) p.i) → [XI (getI (rtL T s (bstT T s 4) p.i) j)] = [XI (getI (rtL T s (bstT T s 4) p.i) j)]) ∧ (rtV_d T p) ∧ True) ∧ (decide ((↑x_1.i : Int) < (↑(T.at p.i).dom.n : Int)) = false → ((rtV_f T s p x_1) = true → lenI (rtL T s (bstT T s 4) p.i) = lenI (rtL T s (bstT T s 4) p.i) ∧ (lenI (rtL T s (bstT T s 4) p.i) + (1 : Nat)) * (8 : Nat) ≤ (140737488355328 : Nat) ∧ lenI (rtL T s (bstT T s 4) p.i) + (1 : Nat) ≤ (140737488355328 : Nat) ∧ in64 ((↑p.i : Int) + (1 : Int)) ∧ ∃ (x' : (rtC T s e ap (bstT T s 4)).σ), x'.i.le 4 ∧ (4 : Nat) - x'.i < (4 : Nat) - x.i ∧ true = true ∧ s = s ∧ bstT T s 4 = bstT T s 4 ∧ XV.sl 1 1 0 (lenI (rtL T s (bstT T s 4) p.i) + (1 : Nat)) = XV.sl 1 1 0 (lenI (rtL T s (bstT T s 4) x'.i)) ∧ XV.agg [XB T.l0.live, XI T.l0.gen, XV.fz T.l0.dom.n 1 fun (j : Nat) => [XT (T.l0.dom.g j)], XB T.l0.dft, XB T.l0.ll, XV.fz T.l0.srv.n 16 T.l0.srv.g, XV.fz T.l0.loc.n 18 T.l0.loc.g, XB T.l1.live, XI T.l1.gen, XV.fz T.l1.dom.n 1 fun (j : Nat) => [XT (T.l1.dom.g j)], XB T.l1.dft, XB T.l1.ll, XV.fz T.l1.srv.n 16 T.l1.srv.g, XV.fz T.l1.loc.n 18 T.l1.loc.g, XB T.l2.live, XI T.l2.gen, XV.fz T.l2.dom.n 1 fun (j : Nat) => [XT (T.l2.dom.g j)], XB T.l2.dft, XB T.l2.ll, XV.fz T.l2.srv.n 16 T.l2.srv.g, XV.fz T.l2.loc.n 18 T.l2.loc.g, XB T.l3.live, XI T.l3.gen, XV.fz T.l3.dom.n 1 fun (j : Nat) => [XT (T.l3.dom.g j)], XB T.l3.dft, XB T.l3.ll, XV.fz T.l3.srv.n 16 T.l3.srv.g, XV.fz T.l3.loc.n 18 T.l3.loc.g] = XV.agg [XB T.l0.live, XI T.l0.gen, XV.fz T.l0.dom.n 1 fun (j : Nat) => [XT (T.l0.dom.g j)], XB T.l0.dft, XB T.l0.ll, XV.fz T.l0.srv.n 16 T.l0.srv.g, XV.fz T.l0.loc.n 18 T.l0.loc.g, XB T.l1.live, XI T.l1.gen, XV.fz T.l1.dom.n 1 fun (j : Nat) => [XT (T.l1.dom.g j)], XB T.l1.dft, XB T.l1.ll, XV.fz T.l1.srv.n 16 T.l1.srv.g, XV.fz T.l1.loc.n 18 T.l1.loc.g, XB T.l2.live, XI T.l2.gen, XV.fz T.l2.dom.n 1 fun (j : Nat) => [XT (T.l2.dom.g j)], XB T.l2.dft, XB T.l2.ll, XV.fz T.l2.srv.n 16 T.l2.srv.g, XV.fz T.l2.loc.n 18 T.l2.loc.g, XB T.l3.live, XI T.l3.gen, XV.fz T.l3.dom.n 1 fun (j : Nat) => [XT (T.l3.dom.g j)], XB T.l3.dft, XB T.l3.ll, XV.fz T.l3.srv.n 16 T.l3.srv.g, XV.fz T.l3.loc.n 18 T.l3.loc.g] ∧ (↑p.i : Int) + (1 : Int) = (↑x'.i : Int) ∧ (rtV_a T e ap) ∧ (rtV_e ∧ lenI (rtL T s (bstT T s 4) p.i) + (1 : Nat) = lenI (rtL T s (bstT T s 4) x'.i) ∧ ∀ (j : Nat), j < lenI (rtL T s (bstT T s 4) p.i) + (1 : Nat) → [Bool.rec (XI (↑p.i : Int)) (XI (getI (rtL T s (bstT T s 4) p.i) j)) (j.blt (lenI (rtL T s (bstT T s 4) p.i)))] = [XI (getI (rtL T s (bstT T s 4) x'.i) j)]) ∧ True) ∧ ((rtV_f T s p x_1) = false → in64 ((↑p.i : Int) + (1 : Int)) ∧ ∃ (x' : (rtC T s e ap (bstT T s 4)).σ), x'.i.le 4 ∧ (4 : Nat) - x'.i < (4 : Nat) - x.i ∧ true = true ∧ s = s ∧ bstT T s 4 = bstT T s 4 ∧ XV.sl 1 1 0 (lenI (rtL T s (bstT T s 4) p.i)) = XV.sl 1 1 0 (lenI (rtL T s (bstT T s 4) x'.i)) ∧ XV.agg [XB T.l0.live, XI T.l0.gen, XV.fz T.l0.dom.n 1 fun (j : Nat) => [XT (T.l0.dom.g j)], XB T.l0.dft, XB T.l0.ll, XV.fz T.l0.srv.n 16 T.l0.srv.g, XV.fz T.l0.loc.n 18 T.l0.loc.g, XB T.l1.live, XI T.l1.gen, XV.fz T.l1.dom.n 1 fun (j : Nat) => [XT (T.l1.dom.g j)], XB T.l1.dft, XB T.l1.ll, XV.fz T.l1.srv.n 16 T.l1.srv.g, XV.fz T.l1.loc.n 18 T.l1.loc.g, XB T.l2.live, XI T.l2.gen, XV.fz T.l2.dom.n 1 fun (j : Nat) => [XT (T.l2.dom.g j)], XB T.l2.dft, XB T.l2.ll, XV.fz T.l2.srv.n 16 T.l2.srv.g, XV.fz T.l2.loc.n 18 T.l2.loc.g, XB T.l3.live, XI T.l3.gen, XV.fz T.l3.dom.n 1 fun (j : Nat) => [XT (T.l3.dom.g j)], XB T.l3.dft, XB T.l3.ll, XV.fz T.l3.srv.n 16 T.l3.srv.g, XV.fz T.l3.loc.n 18 T.l3.loc.g] = XV.agg [XB T.l0.live, XI T.l0.gen, XV.fz T.l0.dom.n 1 fun (j : Nat) => [XT (T.l0.dom.g j)], XB T.l0.dft, XB T.l0.ll, XV.fz T.l0.srv.n 16 T.l0.srv.g, XV.fz T.l0.loc.n 18 T.l0.loc.g, XB T.l1.live, XI T.l1.gen, XV.fz T.l1.dom.n 1 fun (j : Nat) => [XT (T.l1.dom.g j)], XB T.l1.dft, XB T.l1.ll, XV.fz T.l1.srv.n 16 T.l1.srv.g, XV.fz T.l1.loc.n 18 T.l1.loc.g, XB T.l2.live, XI T.l2.gen, XV.fz T.l2.dom.n 1 fun (j : Nat) => [XT (T.l2.dom.g j)], XB T.l2.dft, XB T.l2.ll, XV.fz T.l2.srv.n 16 T.l2.srv.g, XV.fz T.l2.loc.n 18 T.l2.loc.g, XB T.l3.live, XI T.l3.gen, XV.fz T.l3.dom.n 1 fun (j : Nat) => [XT (T.l3.dom.g j)], XB T.l3.dft, XB T.l3.ll, XV.fz T.l3.srv.n 16 T.l3.srv.g, XV.fz T.l3.loc.n 18 T.l3.loc.g] ∧ (↑p.i : Int) + (1 : Int) = (↑x'.i : Int) ∧ (rtV_a T e ap) ∧ (rtV_e ∧ lenI (rtL T s (bstT T s 4) p.i) = lenI (rtL T s (bstT T s 4) x'.i) ∧ ∀ (j : Nat), j < lenI (rtL T s (bstT T s 4) p.i) → [XI (getI (rtL T s (bstT T s 4) p.i) j)] = [XI (getI (rtL T s (bstT T s 4) x'.i) j)]) ∧ True))) ∧ ((↑x.i : Int) = (2 : Int) → (0 : Int) ≤ (2 : Int) ∧ (2 : Int) < (↑(4 : Nat) : Int) ∧ ∃ (p : { α := IL, J := rtD T s e ap (bstT T s 4) : InvP }.α), (∃ (x_1 : ({ α := IL, J := rtD T s e ap (bstT T s 4) : InvP }.J p).σ), (x_1.i ≤ (T.at p.i).dom.n ∧ p.i < (4 : Nat)) ∧ true = true ∧ s = s ∧ bstT T s 4 = bstT T s 4 ∧ XV.sl 1 1 0 (lenI (rtL T s (bstT T s 4) x.i)) = XV.sl 1 1 0 (lenI (rtL T s (bstT T s 4) p.i)) ∧ (2 : Int) = (↑p.i : Int) ∧ XV.ptr 2 0 0 0 = XV.ptr 2 0 0 0 ∧ (decide (bstT T s 4 < (0 : Int)) && T.l2.dft) = useN (T.at p.i).dom.g s (bstT T s 4) (rtV_c T s p) x_1.i ∧ XV.agg [XB T.l0.live, XI T.l0.gen, XV.fz T.l0.dom.n 1 fun (j : Nat) => [XT (T.l0.dom.g j)], XB T.l0.dft, XB T.l0.ll, XV.fz T.l0.srv.n 16 T.l0.srv.g, XV.fz T.l0.loc.n 18 T.l0.loc.g, XB T.l1.live, XI T.l1.gen, XV.fz T.l1.dom.n 1 fun (j : Nat) => [XT (T.l1.dom.g j)], XB T.l1.dft, XB T.l1.ll, XV.fz T.l1.srv.n 16 T.l1.srv.g, XV.fz T.l1.loc.n 18 T.l1.loc.g, XB T.l2.live, XI T.l2.gen, XV.fz T.l2.dom.n 1 fun (j : Nat) => [XT (T.l2.dom.g j)], XB T.l2.dft, XB T.l2.ll, XV.fz T.l2.srv.n 16 T.l2.srv.g, XV.fz T.l2.loc.n 18 T.l2.loc.g, XB T.l3.live, XI T.l3.gen, XV.fz T.l3.dom.n 1 fun (j : Nat) => [XT (T.l3.dom.g j)], XB T.l3.dft, XB T.l3.ll, XV.fz T.l3.srv.n 16 T.l3.srv.g, XV.fz T.l3.loc.n 18 T.l3.loc.g] = XV.agg [XB T.l0.live, XI T.l0.gen, XV.fz T.l0.dom.n 1 fun (j : Nat) => [XT (T.l0.dom.g j)], XB T.l0.dft, XB T.l0.ll, XV.fz T.l0.srv.n 16 T.l0.srv.g, XV.fz T.l0.loc.n 18 T.l0.loc.g, XB T.l1.live, XI T.l1.gen, XV.fz T.l1.dom.n 1 fun (j : Nat) => [XT (T.l1.dom.g j)], XB T.l1.dft, XB T.l1.ll, XV.fz T.l1.srv.n 16 T.l1.srv.g, XV.fz T.l1.loc.n 18 T.l1.loc.g, XB T.l2.live, XI T.l2.gen, XV.fz T.l2.dom.n 1 fun (j : Nat) => [XT (T.l2.dom.g j)], XB T.l2.dft, XB T.l2.ll, XV.fz T.l2.srv.n 16 T.l2.srv.g, XV.fz T.l2.loc.n 18 T.l2.loc.g, XB T.l3.live, XI T.l3.gen, XV.fz T.l3.dom.n 1 fun (j : Nat) => [XT (T.l3.dom.g j)], XB T.l3.dft, XB T.l3.ll, XV.fz T.l3.srv.n 16 T.l3.srv.g, XV.fz T.l3.loc.n 18 T.l3.loc.g] ∧ (2 : Int) = (↑p.i : Int) ∧ ((XV.fz T.l2.dom.n 1 fun (j : Nat) => [XT (T.l2.dom.g j)]) = XV.fz (T.at p.i).dom.n 1 fun (j : Nat) => [XT ((T.at p.i).dom.g j)]) ∧ (↑T.l2.dom.n : Int) = (↑(T.at p.i).dom.n : Int) ∧ (0 : Int) = (↑x_1.i : Int) ∧ (rtV_a T e ap) ∧ (rtV_e ∧ lenI (rtL T s (bstT T s 4) x.i) = lenI (rtL T s (bstT T s 4) p.i) ∧ ∀ (j : Nat), j < lenI (rtL T s (bstT T s 4) x.i) → [XI (getI (rtL T s (bstT T s 4) x.i) j)] = [XI (getI (rtL T s (bstT T s 4) p.i) j)]) ∧ (((26 : Nat) = (26 : TypeId) ∧ true = true) ∧ T.l2.live = (T.at p.i).live ∧ T.l2.gen = (T.at p.i).gen ∧ ((XV.fz T.l2.dom.n 1 fun (j : Nat) => [XT (T.l2.dom.g j)]) = XV.fz (T.at p.i).dom.n 1 fun (j : Nat) => [XT ((T.at p.i).dom.g j)]) ∧ T.l2.dft = (T.at p.i).dft ∧ T.l2.ll = (T.at p.i).ll ∧ XV.fz T.l2.srv.n 16 T.l2.srv.g = XV.fz (T.at p.i).srv.n 16 (T.at p.i).srv.g ∧ XV.fz T.l2.loc.n 18 T.l2.loc.g = XV.fz (T.at p.i).loc.n 18 (T.at p.i).loc.g ∧ True) ∧ True) ∧ ∀ (x_1 : IL), x_1.i ≤ (T.at p.i).dom.n ∧ p.i < (4 : Nat) → (decide ((↑x_1.i : Int) < (↑(T.at p.i).dom.n : Int)) = true → (0 : Int) ≤ (↑x_1.i : Int) ∧ (↑x_1.i : Int) < (↑(T.at p.i).dom.n : Int) ∧ ((rtV_h T s p x_1) = true → s.size ≤ (1000000 : Nat)) ∧ ((rtV_h T s p x_1) = true → ((T.at p.i).dom.g (↑x_1.i : Int).toNat).size ≤ (1000000 : Nat)) ∧ (rtV_g T s p x_1) ∧ in64 ((↑x_1.i : Int) + (1 : Int)) ∧ ∃ (x' : ({ α := IL, J := rtD T s e ap (bstT T s 4) : InvP }.J p).σ), (x'.i ≤ (T.at p.i).dom.n ∧ p.i < (4 : Nat)) ∧ (T.at p.i).dom.n - x'.i < (T.at p.i).dom.n - x_1.i ∧ true = true ∧ s = s ∧ bstT T s 4 = bstT T s 4 ∧ XV.sl 1 1 0 (lenI (rtL T s (bstT T s 4) p.i)) = XV.sl 1 1 0 (lenI (rtL T s (bstT T s 4) p.i)) ∧ (↑p.i : Int) = (↑p.i : Int) ∧ XV.ptr 2 0 0 0 = XV.ptr 2 0 0 0 ∧ (rtV_i T s p x_1) = useN (T.at p.i).dom.g s (bstT T s 4) (rtV_c T s p) x'.i ∧ XV.agg [XB T.l0.live, XI T.l0.gen, XV.fz T.l0.dom.n 1 fun (j : Nat) => [XT (T.l0.dom.g j)], XB T.l0.dft, XB T.l0.ll, XV.fz T.l0.srv.n 16 T.l0.srv.g, XV.fz T.l0.loc.n 18 T.l0.loc.g, XB T.l1.live, XI T.l1.gen, XV.fz T.l1.dom.n 1 fun (j : Nat) => [XT (T.l1.dom.g j)], XB T.l1.dft, XB T.l1.ll, XV.fz T.l1.srv.n 16 T.l1.srv.g, XV.fz T.l1.loc.n 18 T.l1.loc.g, XB T.l2.live, XI T.l2.gen, XV.fz T.l2.dom.n 1 fun (j : Nat) => [XT (T.l2.dom.g j)], XB T.l2.dft, XB T.l2.ll, XV.fz T.l2.srv.n 16 T.l2.srv.g, XV.fz T.l2.loc.n 18 T.l2.loc.g, XB T.l3.live, XI T.l3.gen, XV.fz T.l3.dom.n 1 fun (j : Nat) => [XT (T.l3.dom.g j)], XB T.l3.dft, XB T.l3.ll, XV.fz T.l3.srv.n 16 T.l3.srv.g, XV.fz T.l3.loc.n 18 T.l3.loc.g] = XV.agg [XB T.l0.live, XI T.l0.gen, XV.fz T.l0.dom.n 1 fun (j : Nat) => [XT (T.l0.dom.g j)], XB T.l0.dft, XB T.l0.ll, XV.fz T.l0.srv.n 16 T.l0.srv.g, XV.fz T.l0.loc.n 18 T.l0.loc.g, XB T.l1.live, XI T.l1.gen, XV.fz T.l1.dom.n 1 fun (j : Nat) => [XT (T.l1.dom.g j)], XB T.l1.dft, XB T.l1.ll, XV.fz T.l1.srv.n 16 T.l1.srv.g, XV.fz T.l1.loc.n 18 T.l1.loc.g, XB T.l2.live, XI T.l2.gen, XV.fz T.l2.dom.n 1 fun (j : Nat) => [XT (T.l2.dom.g j)], XB T.l2.dft, XB T.l2.ll, XV.fz T.l2.srv.n 16 T.l2.srv.g, XV.fz T.l2.loc.n 18 T.l2.loc.g, XB T.l3.live, XI T.l3.gen, XV.fz T.l3.dom.n 1 fun (j : Nat) => [XT (T.l3.dom.g j)], XB T.l3.dft, XB T.l3.ll, XV.fz T.l3.srv.n 16 T.l3.srv.g, XV.fz T.l3.loc.n 18 T.l3.loc.g] ∧ (↑p.i : Int) = (↑p.i : Int) ∧ (rtV_b T p) ∧ (↑(T.at p.i).dom.n : Int) = (↑(T.at p.i).dom.n : Int) ∧ (↑x_1.i : Int) + (1 : Int) = (↑x'.i : Int) ∧ (rtV_a T e ap) ∧ (rtV_e ∧ lenI (rtL T s (bstT T s 4) p.i) = lenI (rtL T s (bstT T s 4) p.i) ∧ ∀ (j : Nat), j < lenI (rtL T s (bstT T s 4) p.i) → [XI (getI (rtL T s (bstT T s 4) p.i) j)] = [XI (getI (rtL T s (bstT T s 4) p.i) j)]) ∧ (rtV_d T p) ∧ True) ∧ (decide ((↑x_1.i : Int) < (↑(T.at p.i).dom.n : Int)) = false → ((rtV_f T s p x_1) = true → lenI (rtL T s (bstT T s 4) p.i) = lenI (rtL T s (bstT T s 4) p.i) ∧ (lenI (rtL T s (bstT T s 4) p.i) + (1 : Nat)) * (8 : Nat) ≤ (140737488355328 : Nat) ∧ lenI (rtL T s (bstT T s 4) p.i) + (1 : Nat) ≤ (140737488355328 : Nat) ∧ in64 ((↑p.i : Int) + (1 : Int)) ∧ ∃ (x' : (rtC T s e ap (bstT T s 4)).σ), x'.i.le 4 ∧ (4 : Nat) - x'.i < (4 : Nat) - x.i ∧ true = true ∧ s = s ∧ bstT T s 4 = bstT T s 4 ∧ XV.sl 1 1 0 (lenI (rtL T s (bstT T s 4) p.i) + (1 : Nat)) = XV.sl 1 1 0 (lenI (rtL T s (bstT T s 4) x'.i)) ∧ XV.agg [XB T.l0.live, XI T.l0.gen, XV.fz T.l0.dom.n 1 fun (j : Nat) => [XT (T.l0.dom.g j)], XB T.l0.dft, XB T.l0.ll, XV.fz T.l0.srv.n 16 T.l0.srv.g, XV.fz T.l0.loc.n 18 T.l0.loc.g, XB T.l1.live, XI T.l1.gen, XV.fz T.l1.dom.n 1 fun (j : Nat) => [XT (T.l1.dom.g j)], XB T.l1.dft, XB T.l1.ll, XV.fz T.l1.srv.n 16 T.l1.srv.g, XV.fz T.l1.loc.n 18 T.l1.loc.g, XB T.l2.live, XI T.l2.gen, XV.fz T.l2.dom.n 1 fun (j : Nat) => [XT (T.l2.dom.g j)], XB T.l2.dft, XB T.l2.ll, XV.fz T.l2.srv.n 16 T.l2.srv.g, XV.fz T.l2.loc.n 18 T.l2.loc.g, XB T.l3.live, XI T.l3.gen, XV.fz T.l3.dom.n 1 fun (j : Nat) => [XT (T.l3.dom.g j)], XB T.l3.dft, XB T.l3.ll, XV.fz T.l3.srv.n 16 T.l3.srv.g, XV.fz T.l3.loc.n 18 T.l3.loc.g] = XV.agg [XB T.l0.live, XI T.l0.gen, XV.fz T.l0.dom.n 1 fun (j : Nat) => [XT (T.l0.dom.g j)], XB T.l0.dft, XB T.l0.ll, XV.fz T.l0.srv.n 16 T.l0.srv.g, XV.fz T.l0.loc.n 18 T.l0.loc.g, XB T.l1.live, XI T.l1.gen, XV.fz T.l1.dom.n 1 fun (j : Nat) => [XT (T.l1.dom.g j)], XB T.l1.dft, XB T.l1.ll, XV.fz T.l1.srv.n 16 T.l1.srv.g, XV.fz T.l1.loc.n 18 T.l1.loc.g, XB T.l2.live, XI T.l2.gen, XV.fz T.l2.dom.n 1 fun (j : Nat) => [XT (T.l2.dom.g j)], XB T.l2.dft, XB T.l2.ll, XV.fz T.l2.srv.n 16 T.l2.srv.g, XV.fz T.l2.loc.n 18 T.l2.loc.g, XB T.l3.live, XI T.l3.gen, XV.fz T.l3.dom.n 1 fun (j : Nat) => [XT (T.l3.dom.g j)], XB T.l3.dft, XB T.l3.ll, XV.fz T.l3.srv.n 16 T.l3.srv.g, XV.fz T.l3.loc.n 18 T.l3.loc.g] ∧ (↑p.i : Int) + (1 : Int) = (↑x'.i : Int) ∧ (rtV_a T e ap) ∧ (rtV_e ∧ lenI (rtL T s (bstT T s 4) p.i) + (1 : Nat) = lenI (rtL T s (bstT T s 4) x'.i) ∧ ∀ (j : Nat), j < lenI (rtL T s (bstT T s 4) p.i) + (1 : Nat) → [Bool.rec (XI (↑p.i : Int)) (XI (getI (rtL T s (bstT T s 4) p.i) j)) (j.blt (lenI (rtL T s (bstT T s 4) p.i)))] = [XI (getI (rtL T s (bstT T s 4) x'.i) j)]) ∧ True) ∧ ((rtV_f T s p x_1) = false → in64 ((↑p.i : Int) + (1 : Int)) ∧ ∃ (x' : (rtC T s e ap (bstT T s 4)).σ), x'.i.le 4 ∧ (4 : Nat) - x'.i < (4 : Nat) - x.i ∧ true = true ∧ s = s ∧ bstT T s 4 = bstT T s 4 ∧ XV.sl 1 1 0 (lenI (rtL T s (bstT T s 4) p.i)) = XV.sl 1 1 0 (lenI (rtL T s (bstT T s 4) x'.i)) ∧ XV.agg [XB T.l0.live, XI T.l0.gen, XV.fz T.l0.dom.n 1 fun (j : Nat) => [XT (T.l0.dom.g j)], XB T.l0.dft, XB T.l0.ll, XV.fz T.l0.srv.n 16 T.l0.srv.g, XV.fz T.l0.loc.n 18 T.l0.loc.g, XB T.l1.live, XI T.l1.gen, XV.fz T.l1.dom.n 1 fun (j : Nat) => [XT (T.l1.dom.g j)], XB T.l1.dft, XB T.l1.ll, XV.fz T.l1.srv.n 16 T.l1.srv.g, XV.fz T.l1.loc.n 18 T.l1.loc.g, XB T.l2.live, XI T.l2.gen, XV.fz T.l2.dom.n 1 fun (j : Nat) => [XT (T.l2.dom.g j)], XB T.l2.dft, XB T.l2.ll, XV.fz T.l2.srv.n 16 T.l2.srv.g, XV.fz T.l2.loc.n 18 T.l2.loc.g, XB T.l3.live, XI T.l3.gen, XV.fz T.l3.dom.n 1 fun (j : Nat) => [XT (T.l3.dom.g j)], XB T.l3.dft, XB T.l3.ll, XV.fz T.l3.srv.n 16 T.l3.srv.g, XV.fz T.l3.loc.n 18 T.l3.loc.g] = XV.agg [XB T.l0.live, XI T.l0.gen, XV.fz T.l0.dom.n 1 fun (j : Nat) => [XT (T.l0.dom.g j)], XB T.l0.dft, XB T.l0.ll, XV.fz T.l0.srv.n 16 T.l0.srv.g, XV.fz T.l0.loc.n 18 T.l0.loc.g, XB T.l1.live, XI T.l1.gen, XV.fz T.l1.dom.n 1 fun (j : Nat) => [XT (T.l1.dom.g j)], XB T.l1.dft, XB T.l1.ll, XV.fz T.l1.srv.n 16 T.l1.srv.g, XV.fz T.l1.loc.n 18 T.l1.loc.g, XB T.l2.live, XI T.l2.gen, XV.fz T.l2.dom.n 1 fun (j : Nat) => [XT (T.l2.dom.g j)], XB T.l2.dft, XB T.l2.ll, XV.fz T.l2.srv.n 16 T.l2.srv.g, XV.fz T.l2.loc.n 18 T.l2.loc.g, XB T.l3.live, XI T.l3.gen, XV.fz T.l3.dom.n 1 fun (j : Nat) => [XT (T.l3.dom.g j)], XB T.l3.dft, XB T.l3.ll, XV.fz T.l3.srv.n 16 T.l3.srv.g, XV.fz T.l3.loc.n 18 T.l3.loc.g] ∧ (↑p.i : Int) + (1 : Int) = (↑x'.i : Int) ∧ (rtV_a T e ap) ∧ (rtV_e ∧ lenI (rtL T s (bstT T s 4) p.i) = lenI (rtL T s (bstT T s 4) x'.i) ∧ ∀ (j : Nat), j < lenI (rtL T s (bstT T s 4) p.i) → [XI (getI (rtL T s (bstT T s 4) p.i) j)] = [XI (getI (rtL T s (bstT T s 4) x'.i) j)]) ∧ True))) ∧ ((↑x.i : Int) = (3 : Int) → (0 : Int) ≤ (3 : Int) ∧ (3 : Int) < (↑(4 : Nat) : Int) ∧ ∃ (p : { α := IL, J := rtD T s e ap (bstT T s 4) : InvP }.α), (∃ (x_1 : ({ α := IL, J := rtD T s e ap (bstT T s 4) : InvP }.J p).σ), (x_1.i ≤ (T.at p.i).dom.n ∧ p.i < (4 : Nat)) ∧ true = true ∧ s = s ∧ bstT T s 4 = bstT T s 4 ∧ XV.sl 1 1 0 (lenI (rtL T s (bstT T s 4) x.i)) = XV.sl 1 1 0 (lenI (rtL T s (bstT T s 4) p.i)) ∧ (3 : Int) = (↑p.i : Int) ∧ XV.ptr 2 0 0 0 = XV.ptr 2 0 0 0 ∧ (decide (bstT T s 4 < (0 : Int)) && T.l3.dft) = useN (T.at p.i).dom.g s (bstT T s 4) (rtV_c T s p) x_1.i ∧ XV.agg [XB T.l0.live, XI T.l0.gen, XV.fz T.l0.dom.n 1 fun (j : Nat) => [XT (T.l0.dom.g j)], XB T.l0.dft, XB T.l0.ll, XV.fz T.l0.srv.n 16 T.l0.srv.g, XV.fz T.l0.loc.n 18 T.l0.loc.g, XB T.l1.live, XI T.l1.gen, XV.fz T.l1.dom.n 1 fun (j : Nat) => [XT (T.l1.dom.g j)], XB T.l1.dft, XB T.l1.ll, XV.fz T.l1.srv.n 16 T.l1.srv.g, XV.fz T.l1.loc.n 18 T.l1.loc.g, XB T.l2.live, XI T.l2.gen, XV.fz T.l2.dom.n 1 fun (j : Nat) => [XT (T.l2.dom.g j)], XB T.l2.dft, XB T.l2.ll, XV.fz T.l2.srv.n 16 T.l2.srv.g, XV.fz T.l2.loc.n 18 T.l2.loc.g, XB T.l3.live, XI T.l3.gen, XV.fz T.l3.dom.n 1 fun (j : Nat) => [XT (T.l3.dom.g j)], XB T.l3.dft, XB T.l3.ll, XV.fz T.l3.srv.n 16 T.l3.srv.g, XV.fz T.l3.loc.n 18 T.l3.loc.g] = XV.agg [XB T.l0.live, XI T.l0.gen, XV.fz T.l0.dom.n 1 fun (j : Nat) => [XT (T.l0.dom.g j)], XB T.l0.dft, XB T.l0.ll, XV.fz T.l0.srv.n 16 T.l0.srv.g, XV.fz T.l0.loc.n 18 T.l0.loc.g, XB T.l1.live, XI T.l1.gen, XV.fz T.l1.dom.n 1 fun (j : Nat) => [XT (T.l1.dom.g j)], XB T.l1.dft, XB T.l1.ll, XV.fz T.l1.srv.n 16 T.l1.srv.g, XV.fz T.l1.loc.n 18 T.l1.loc.g, XB T.l2.live, XI T.l2.gen, XV.fz T.l2.dom.n 1 fun (j : Nat) => [XT (T.l2.dom.g j)], XB T.l2.dft, XB T.l2.ll, XV.fz T.l2.srv.n 16 T.l2.srv.g, XV.fz T.l2.loc.n 18 T.l2.loc.g, XB T.l3.live, XI T.l3.gen, XV.fz T.l3.dom.n 1 fun (j : Nat) => [XT (T.l3.dom.g j)], XB T.l3.dft, XB T.l3.ll, XV.fz T.l3.srv.n 16 T.l3.srv.g, XV.fz T.l3.loc.n 18 T.l3.loc.g] ∧ (3 : Int) = (↑p.i : Int) ∧ ((XV.fz T.l3.dom.n 1 fun (j : Nat) => [XT (T.l3.dom.g j)]) = XV.fz (T.at p.i).dom.n 1 fun (j : Nat) => [XT ((T.at p.i).dom.g j)]) ∧ (↑T.l3.dom.n : Int) = (↑(T.at p.i).dom.n : Int) ∧ (0 : Int) = (↑x_1.i : Int) ∧ (rtV_a T e ap) ∧ (rtV_e ∧ lenI (rtL T s (bstT T s 4) x.i) = lenI (rtL T s (bstT T s 4) p.i) ∧ ∀ (j : Nat), j < lenI (rtL T s (bstT T s 4) x.i) → [XI (getI (rtL T s (bstT T s 4) x.i) j)] = [XI (getI (rtL T s (bstT T s 4) p.i) j)]) ∧ (((26 : Nat) = (26 : TypeId) ∧ true = true) ∧ T.l3.live = (T.at p.i).live ∧ T.l3.gen = (T.at p.i).gen ∧ ((XV.fz T.l3.dom.n 1 fun (j : Nat) => [XT (T.l3.dom.g j)]) = XV.fz (T.at p.i).dom.n 1 fun (j : Nat) => [XT ((T.at p.i).dom.g j)]) ∧ T.l3.dft = (T.at p.i).dft ∧ T.l3.ll = (T.at p.i).ll ∧ XV.fz T.l3.srv.n 16 T.l3.srv.g = XV.fz (T.at p.i).srv.n 16 (T.at p.i).srv.g ∧ XV.fz T.l3.loc.n 18 T.l3.loc.g = XV.fz (T.at p.i).loc.n 18 (T.at p.i).loc.g ∧ True) ∧ True) ∧ ∀ (x_1 : IL), x_1.i ≤ (T.at p.i).dom.n ∧ p.i < (4 : Nat) → (decide ((↑x_1.i : Int) < (↑(T.at p.i).dom.n : Int)) = true → (0 : Int) ≤ (↑x_1.i : Int) ∧ (↑x_1.i : Int) < (↑(T.at p.i).dom.n : Int) ∧ ((rtV_h T s p x_1) = true → s.size ≤ (1000000 : Nat)) ∧ ((rtV_h T s p x_1) = true → ((T.at p.i).dom.g (↑x_1.i : Int).toNat).size ≤ (1000000 : Nat)) ∧ (rtV_g T s p x_1) ∧ in64 ((↑x_1.i : Int) + (1 : Int)) ∧ ∃ (x' : ({ α := IL, J := rtD T s e ap (bstT T s 4) : InvP }.J p).σ), (x'.i ≤ (T.at p.i).dom.n ∧ p.i < (4 : Nat)) ∧ (T.at p.i).dom.n - x'.i < (T.at p.i).dom.n - x_1.i ∧ true = true ∧ s = s ∧ bstT T s 4 = bstT T s 4 ∧ XV.sl 1 1 0 (lenI (rtL T s (bstT T s 4) p.i)) = XV.sl 1 1 0 (lenI (rtL T s (bstT T s 4) p.i)) ∧ (↑p.i : Int) = (↑p.i : Int) ∧ XV.ptr 2 0 0 0 = XV.ptr 2 0 0 0 ∧ (rtV_i T s p x_1) = useN (T.at p.i).dom.g s (bstT T s 4) (rtV_c T s p) x'.i ∧ XV.agg [XB T.l0.live, XI T.l0.gen, XV.fz T.l0.dom.n 1 fun (j : Nat) => [XT (T.l0.dom.g j)], XB T.l0.dft, XB T.l0.ll, XV.fz T.l0.srv.n 16 T.l0.srv.g, XV.fz T.l0.loc.n 18 T.l0.loc.g, XB T.l1.live, XI T.l1.gen, XV.fz T.l1.dom.n 1 fun (j : Nat) => [XT (T.l1.dom.g j)], XB T.l1.dft, XB T.l1.ll, XV.fz T.l1.srv.n 16 T.l1.srv.g, XV.fz T.l1.loc.n 18 T.l1.loc.g, XB T.l2.live, XI T.l2.gen, XV.fz T.l2.dom.n 1 fun (j : Nat) => [XT (T.l2.dom.g j)], XB T.l2.dft, XB T.l2.ll, XV.fz T.l2.srv.n 16 T.l2.srv.g, XV.fz T.l2.loc.n 18 T.l2.loc.g, XB T.l3.live, XI T.l3.gen, XV.fz T.l3.dom.n 1 fun (j : Nat) => [XT (T.l3.dom.g j)], XB T.l3.dft, XB T.l3.ll, XV.fz T.l3.srv.n 16 T.l3.srv.g, XV.fz T.l3.loc.n 18 T.l3.loc.g] = XV.agg [XB T.l0.live, XI T.l0.gen, XV.fz T.l0.dom.n 1 fun (j : Nat) => [XT (T.l0.dom.g j)], XB T.l0.dft, XB T.l0.ll, XV.fz T.l0.srv.n 16 T.l0.srv.g, XV.fz T.l0.loc.n 18 T.l0.loc.g, XB T.l1.live, XI T.l1.gen, XV.fz T.l1.dom.n 1 fun (j : Nat) => [XT (T.l1.dom.g j)], XB T.l1.dft, XB T.l1.ll, XV.fz T.l1.srv.n 16 T.l1.srv.g, XV.fz T.l1.loc.n 18 T.l1.loc.g, XB T.l2.live, XI T.l2.gen, XV.fz T.l2.dom.n 1 fun (j : Nat) => [XT (T.l2.dom.g j)], XB T.l2.dft, XB T.l2.ll, XV.fz T.l2.srv.n 16 T.l2.srv.g, XV.fz T.l2.loc.n 18 T.l2.loc.g, XB T.l3.live, XI T.l3.gen, XV.fz T.l3.dom.n 1 fun (j : Nat) => [XT (T.l3.dom.g j)], XB T.l3.dft, XB T.l3.ll, XV.fz T.l3.srv.n 16 T.l3.srv.g, XV.fz T.l3.loc.n 18 T.l3.loc.g] ∧ (↑p.i : Int) = (↑p.i : Int) ∧ (rtV_b T p) ∧ (↑(T.at p.i).dom.n : Int) = (↑(T.at p.i).dom.n : Int) ∧ (↑x_1.i : Int) + (1 : Int) = (↑x'.i : Int) ∧ (rtV_a T e ap) ∧ (rtV_e ∧ lenI (rtL T s (bstT T s 4) p.i) = lenI (rtL T s (bstT T s 4) p.i) ∧ ∀ (j : Nat), j < lenI (rtL T s (bstT T s 4) p.i) → [XI (getI (rtL T s (bstT T s 4) p.i) j)] = [XI (getI (rtL T s (bstT T s 4) p.i) j)]) ∧ (rtV_d T p) ∧ True) ∧ (decide ((↑x_1.i : Int) < (↑(T.at p.i).dom.n : Int)) = false → ((rtV_f T s p x_1) = true → lenI (rtL T s (bstT T s 4) p.i) = lenI (rtL T s (bstT T s 4) p.i) ∧ (lenI (rtL T s (bstT T s 4) p.i) + (1 : Nat)) * (8 : Nat) ≤ (140737488355328 : Nat) ∧ lenI (rtL T s (bstT T s 4) p.i) + (1 : Nat) ≤ (140737488355328 : Nat) ∧ in64 ((↑p.i : Int) + (1 : Int)) ∧ ∃ (x' : (rtC T s e ap (bstT T s 4)).σ), x'.i.le 4 ∧ (4 : Nat) - x'.i < (4 : Nat) - x.i ∧ true = true ∧ s = s ∧ bstT T s 4 = bstT T s 4 ∧ XV.sl 1 1 0 (lenI (rtL T s (bstT T s 4) p.i) + (1 : Nat)) = XV.sl 1 1 0 (lenI (rtL T s (bstT T s 4) x'.i)) ∧ XV.agg [XB T.l0.live, XI T.l0.gen, XV.fz T.l0.dom.n 1 fun (j : Nat) => [XT (T.l0.dom.g j)], XB T.l0.dft, XB T.l0.ll, XV.fz T.l0.srv.n 16 T.l0.srv.g, XV.fz T.l0.loc.n 18 T.l0.loc.g, XB T.l1.live, XI T.l1.gen, XV.fz T.l1.dom.n 1 fun (j : Nat) => [XT (T.l1.dom.g j)], XB T.l1.dft, XB T.l1.ll, XV.fz T.l1.srv.n 16 T.l1.srv.g, XV.fz T.l1.loc.n 18 T.l1.loc.g, XB T.l2.live, XI T.l2.gen, XV.fz T.l2.dom.n 1 fun (j : Nat) => [XT (T.l2.dom.g j)], XB T.l2.dft, XB T.l2.ll, XV.fz T.l2.srv.n 16 T.l2.srv.g, XV.fz T.l2.loc.n 18 T.l2.loc.g, XB T.l3.live, XI T.l3.gen, XV.fz T.l3.dom.n 1 fun (j : Nat) => [XT (T.l3.dom.g j)], XB T.l3.dft, XB T.l3.ll, XV.fz T.l3.srv.n 16 T.l3.srv.g, XV.fz T.l3.loc.n 18 T.l3.loc.g] = XV.agg [XB T.l0.live, XI T.l0.gen, XV.fz T.l0.dom.n 1 fun (j : Nat) => [XT (T.l0.dom.g j)], XB T.l0.dft, XB T.l0.ll, XV.fz T.l0.srv.n 16 T.l0.srv.g, XV.fz T.l0.loc.n 18 T.l0.loc.g, XB T.l1.live, XI T.l1.gen, XV.fz T.l1.dom.n 1 fun (j : Nat) => [XT (T.l1.dom.g j)], XB T.l1.dft, XB T.l1.ll, XV.fz T.l1.srv.n 16 T.l1.srv.g, XV.fz T.l1.loc.n 18 T.l1.loc.g, XB T.l2.live, XI T.l2.gen, XV.fz T.l2.dom.n 1 fun (j : Nat) => [XT (T.l2.dom.g j)], XB T.l2.dft, XB T.l2.ll, XV.fz T.l2.srv.n 16 T.l2.srv.g, XV.fz T.l2.loc.n 18 T.l2.loc.g, XB T.l3.live, XI T.l3.gen, XV.fz T.l3.dom.n 1 fun (j : Nat) => [XT (T.l3.dom.g j)], XB T.l3.dft, XB T.l3.ll, XV.fz T.l3.srv.n 16 T.l3.srv.g, XV.fz T.l3.loc.n 18 T.l3.loc.g] ∧ (↑p.i : Int) + (1 : Int) = (↑x'.i : Int) ∧ (rtV_a T e ap) ∧ (rtV_e ∧ lenI (rtL T s (bstT T s 4) p.i) + (1 : Nat) = lenI (rtL T s (bstT T s 4) x'.i) ∧ ∀ (j : Nat), j < lenI (rtL T s (bstT T s 4) p.i) + (1 : Nat) → [Bool.rec (XI (↑p.i : Int)) (XI (getI (rtL T s (bstT T s 4) p.i) j)) (j.blt (lenI (rtL T s (bstT T s 4) p.i)))] = [XI (getI (rtL T s (bstT T s 4) x'.i) j)]) ∧ True) ∧ ((rtV_f T s p x_1) = false → in64 ((↑p.i : Int) + (1 : Int)) ∧ ∃ (x' : (rtC T s e ap (bstT T s 4)).σ), x'.i.le 4 ∧ (4 : Nat) - x'.i < (4 : Nat) - x.i ∧ true = true ∧ s = s ∧ bstT T s 4 = bstT T s 4 ∧ XV.sl 1 1 0 (lenI (rtL T s (bstT T s 4) p.i)) = XV.sl 1 1 0 (lenI (rtL T s (bstT T s 4) x'.i)) ∧ XV.agg [XB T.l0.live, XI T.l0.gen, XV.fz T.l0.dom.n 1 fun (j : Nat) => [XT (T.l0.dom.g j)], XB T.l0.dft, XB T.l0.ll, XV.fz T.l0.srv.n 16 T.l0.srv.g, XV.fz T.l0.loc.n 18 T.l0.loc.g, XB T.l1.live, XI T.l1.gen, XV.fz T.l1.dom.n 1 fun (j : Nat) => [XT (T.l1.dom.g j)], XB T.l1.dft, XB T.l1.ll, XV.fz T.l1.srv.n 16 T.l1.srv.g, XV.fz T.l1.loc.n 18 T.l1.loc.g, XB T.l2.live, XI T.l2.gen, XV.fz T.l2.dom.n 1 fun (j : Nat) => [XT (T.l2.dom.g j)], XB T.l2.dft, XB T.l2.ll, XV.fz T.l2.srv.n 16 T.l2.srv.g, XV.fz T.l2.loc.n 18 T.l2.loc.g, XB T.l3.live, XI T.l3.gen, XV.fz T.l3.dom.n 1 fun (j : Nat) => [XT (T.l3.dom.g j)], XB T.l3.dft, XB T.l3.ll, XV.fz T.l3.srv.n 16 T.l3.srv.g, XV.fz T.l3.loc.n 18 T.l3.loc.g] = XV.agg [XB T.l0.live, XI T.l0.gen, XV.fz T.l0.dom.n 1 fun (j : Nat) => [XT (T.l0.dom.g j)], XB T.l0.dft, XB T.l0.ll, XV.fz T.l0.srv.n 16 T.l0.srv.g, XV.fz T.l0.loc.n 18 T.l0.loc.g, XB T.l1.live, XI T.l1.gen, XV.fz T.l1.dom.n 1 fun (j : Nat) => [XT (T.l1.dom.g j)], XB T.l1.dft, XB T.l1.ll, XV.fz T.l1.srv.n 16 T.l1.srv.g, XV.fz T.l1.loc.n 18 T.l1.loc.g, XB T.l2.live, XI T.l2.gen, XV.fz T.l2.dom.n 1 fun (j : Nat) => [XT (T.l2.dom.g j)], XB T.l2.dft, XB T.l2.ll, XV.fz T.l2.srv.n 16 T.l2.srv.g, XV.fz T.l2.loc.n 18 T.l2.loc.g, XB T.l3.live, XI T.l3.gen, XV.fz T.l3.dom.n 1 fun (j : Nat) => [XT (T.l3.dom.g j)], XB T.l3.dft, XB T.l3.ll, XV.fz T.l3.srv.n 16 T.l3.srv.g, XV.fz T.l3.loc.n 18 T.l3.loc.g] ∧ (↑p.i : Int) + (1 : Int) = (↑x'.i : Int) ∧ (rtV_a T e ap) ∧ (rtV_e ∧ lenI (rtL T s (bstT T s 4) p.i) = lenI (rtL T s (bstT T s 4) x'.i) ∧ ∀ (j : Nat), j < lenI (rtL T s (bstT T s 4) p.i) → [XI (getI (rtL T s (bstT T s 4) p.i) j)] = [XI (getI (rtL T s (bstT T s 4) x'.i) j)]) ∧ True))) ∧ True) ∧ (decide ((↑x.i : Int) < (4 : Int)) = false → (((1 : Nat) = (1 : Nat) ∧ (1 : Nat) = (1 : Nat)) ∧ lenI (rtL T s (bstT T s 4) x.i) = lenI (rtL T s (bstT T s 4) x.i) ∧ lenI (rtL T s (bstT T s 4) x.i) = lenI (rtL T s (bstT T s 4) 4) ∧ ∀ (j : Nat), j < lenI (rtL T s (bstT T s 4) x.i) → [XI (getI (rtL T s (bstT T s 4) x.i) j)] = [XI (getI (rtL T s (bstT T s 4) 4) j)]) ∧ (e = e ∧ ap = ap) ∧ T.l0.live = T.l0.live ∧ T.l0.gen = T.l0.gen ∧ ((1 : Nat) = (1 : Nat) ∧ T.l0.dom.n = T.l0.dom.n ∧ ∀ (j : Nat), j < T.l0.dom.n → [XT (T.l0.dom.g j)] = [XT (T.l0.dom.g j)]) ∧ T.l0.dft = T.l0.dft ∧ T.l0.ll = T.l0.ll ∧ ((16 : Nat) = (16 : Nat) ∧ T.l0.srv.n = T.l0.srv.n ∧ ∀ (j : Nat), j < T.l0.srv.n → T.l0.srv.g j = T.l0.srv.g j) ∧ ((18 : Nat) = (18 : Nat) ∧ T.l0.loc.n = T.l0.loc.n ∧ ∀ (j : Nat), j < T.l0.loc.n → T.l0.loc.g j = T.l0.loc.g j) ∧ T.l1.live = T.l1.live ∧ T.l1.gen = T.l1.gen ∧ ((1 : Nat) = (1 : Nat) ∧ T.l1.dom.n = T.l1.dom.n ∧ ∀ (j : Nat), j < T.l1.dom.n → [XT (T.l1.dom.g j)] = [XT (T.l1.dom.g j)]) ∧ T.l1.dft = T.l1.dft ∧ T.l1.ll = T.l1.ll ∧ ((16 : Nat) = (16 : Nat) ∧ T.l1.srv.n = T.l1.srv.n ∧ ∀ (j : Nat), j < T.l1.srv.n → T.l1.srv.g j = T.l1.srv.g j) ∧ ((18 : Nat) = (18 : Nat) ∧ T.l1.loc.n = T.l1.loc.n ∧ ∀ (j : Nat), j < T.l1.loc.n → T.l1.loc.g j = T.l1.loc.g j) ∧ T.l2.live = T.l2.live ∧ T.l2.gen = T.l2.gen ∧ ((1 : Nat) = (1 : Nat) ∧ T.l2.dom.n = T.l2.dom.n ∧ ∀ (j : Nat), j < T.l2.dom.n → [XT (T.l2.dom.g j)] = [XT (T.l2.dom.g j)]) ∧ T.l2.dft = T.l2.dft ∧ T.l2.ll = T.l2.ll ∧ ((16 : Nat) = (16 : Nat) ∧ T.l2.srv.n = T.l2.srv.n ∧ ∀ (j : Nat), j < T.l2.srv.n → T.l2.srv.g j = T.l2.srv.g j) ∧ ((18 : Nat) = (18 : Nat) ∧ T.l2.loc.n = T.l2.loc.n ∧ ∀ (j : Nat), j < T.l2.loc.n → T.l2.loc.g j = T.l2.loc.g j) ∧ T.l3.live = T.l3.live ∧ T.l3.gen = T.l3.gen ∧ ((1 : Nat) = (1 : Nat) ∧ T.l3.dom.n = T.l3.dom.n ∧ ∀ (j : Nat), j < T.l3.dom.n → [XT (T.l3.dom.g j)] = [XT (T.l3.dom.g j)]) ∧ T.l3.dft = T.l3.dft ∧ T.l3.ll = T.l3.ll ∧ ((16 : Nat) = (16 : Nat) ∧ T.l3.srv.n = T.l3.srv.n ∧ ∀ (j : Nat), j < T.l3.srv.n → T.l3.srv.g j = T.l3.srv.g j) ∧ ((18 : Nat) = (18 : Nat) ∧ T.l3.loc.n = T.l3.loc.n ∧ ∀ (j : Nat), j < T.l3.loc.n → T.l3.loc.g j = T.l3.loc.g j) ∧ True ∧ True ∧ True ∧ True ∧ T.g = T.g ∧ True))
theorem rtV_eq (T : LTab) (s : ByteArray) (e : TypeId) (ap : Bool) : rtV T s e ap = (funT cxR Tryd.f14 (mkSc (rtE T s e ap) (bodyOf Tryd.f14)) e ap (tabX T) [XT s] (intsF (rtL T s (bstT T s 4) 4)) (tabX T)) := by kernel_rfl
theorem bstN_pos {g : Nat → ByteArray} {s : ByteArray} {b : Int} {m : Nat} (h : undB s (g m) = true) : imax (bstN g s b m) (cntL (g m)) = bstN g s b (m + 1) := (if_pos h).symm
theorem bstN_neg {g : Nat → ByteArray} {s : ByteArray} {b : Int} {m : Nat} (h : undB s (g m) = false) : bstN g s b m = bstN g s b (m + 1) := (if_neg (by rw [h]; decide)).symm
def okT (T : LTab) : Prop := ∀ k, k < 4 → (T.at k).dom.n ≤ 1000000000 ∧ ∀ j, j < (T.at k).dom.n → ((T.at k).dom.g j).size ≤ 1000000
theorem lenI_rtL (T : LTab) (s : ByteArray) (b : Int) : ∀ k, lenI (rtL T s b k) ≤ k
 | 0 => Nat.le_refl _
 | k + 1 => by
  have := lenI_rtL T s b k
  unfold rtL
  split
  ·unfold lenI at *; rw [List.length_append, List.length_singleton]; omega
  ·omega
theorem getI_app (l : List Int) (x : Int) (j : Nat) (h : j < lenI l + 1) : getI (l ++ [x]) j = bif Nat.blt j (lenI l) then getI l j else x := by
 unfold getI lenI at *
 rw [bltN]
 by_cases k : j < l.length
 ·rw [decide_eq_true k, List.getD_eq_getElem?_getD, List.getD_eq_getElem?_getD, List.getElem?_append_left k]; rfl
 ·rw [decide_eq_false k, List.getD_eq_getElem?_getD, List.getElem?_append_right (by omega), show j - l.length = 0 by omega]
  rfl
theorem ask_eq (k : Lnk) (s : ByteArray) (b : Int) : askK k s b = (k.live && useN k.dom.g s b (decide (b < 0) && k.dft) k.dom.n && decide ((k.srv.n : Int) > 0)) := by
 unfold askK useK
 congr 1
 exact decide_eq_decide.2 (by omega)
theorem rtL_pos {T : LTab} {s : ByteArray} {b : Int} {k : Nat} (h : ((T.at k).live && useN (T.at k).dom.g s b (decide (b < 0) && (T.at k).dft) (T.at k).dom.n && decide (((T.at k).srv.n : Int) > 0)) = true) : rtL T s b (k + 1) = rtL T s b k ++ [(k : Int)] := by
 rw [rtL, if_pos (by rw [ask_eq]; exact h)]
theorem rtL_neg {T : LTab} {s : ByteArray} {b : Int} {k : Nat} (h : ((T.at k).live && useN (T.at k).dom.g s b (decide (b < 0) && (T.at k).dft) (T.at k).dom.n && decide (((T.at k).srv.n : Int) > 0)) = false) : rtL T s b (k + 1) = rtL T s b k := by
 rw [rtL, if_neg (by rw [ask_eq, h]; decide)]
theorem lenI_app (l : List Int) (x : Int) : lenI (l ++ [x]) = lenI l + 1 := by
 unfold lenI
 rw [List.length_append, List.length_singleton]
set_option maxHeartbeats 4000000 in
theorem rt_v (T : LTab) (s : ByteArray) (e : TypeId) (ap : Bool) (hs : s.size ≤ 1000000) (hd : okT T) : rtV T s e ap := by
 unfold rtV rtV_i rtV_h rtV_g rtV_f rtV_e rtV_d rtV_c rtV_b rtV_a
 refine ⟨⟨⟨0⟩, Nat.zero_le _, by and_intros <;> first | rfl | trivial⟩, ?_⟩
 rintro ⟨i⟩ hi
 have hi : i ≤ 4 := hi
 dsimp only
 refine ⟨fun q => ?_, fun q => ?_⟩
 ·have q : (i : Int) < 4 := of_decide_eq_true q
  refine ⟨by omega, fun ek => ?_, fun ek => ?_, fun ek => ?_, fun ek => ?_, trivial⟩
  ·obtain rfl : i = 0 := by omega
   refine ⟨by decide, by decide, ⟨0⟩, ⟨⟨0⟩, ⟨Nat.zero_le _, by decide⟩, by and_intros <;> first | rfl | trivial⟩, ?_⟩
   rintro ⟨m⟩ ⟨hm, hp⟩
   dsimp only at hm hp ⊢
   obtain ⟨hn, hz⟩ := hd _ hp
   refine ⟨fun q => ?_, fun q => ?_⟩
   ·have q := of_decide_eq_true q
    rw [Int.toNat_natCast]
    refine ⟨by omega, q, hs, hz m (by omega), fun h => ⟨hz m (by omega), by unfold in64; omega, ⟨m + 1⟩, ⟨by show m + 1 ≤ _; omega, hp⟩, by show _ - (m + 1) < _ - m; omega, ?_⟩, fun h => ⟨by unfold in64; omega, ⟨m + 1⟩, ⟨by show m + 1 ≤ _; omega, hp⟩, by show _ - (m + 1) < _ - m; omega, ?_⟩⟩
    ·and_intros <;> first | rfl | trivial | exact bstN_pos h
    ·and_intros <;> first | rfl | trivial | exact bstN_neg h
   ·have q := of_decide_eq_false q
    obtain rfl : m = _ := Nat.le_antisymm hm (by omega)
    refine ⟨by unfold in64; omega, ⟨0 + 1⟩, (show 0 + 1 ≤ 4 by decide), by decide, ?_⟩
    and_intros <;> first | rfl | trivial
  ·obtain rfl : i = 1 := by omega
   refine ⟨by decide, by decide, ⟨1⟩, ⟨⟨0⟩, ⟨Nat.zero_le _, by decide⟩, by and_intros <;> first | rfl | trivial⟩, ?_⟩
   rintro ⟨m⟩ ⟨hm, hp⟩
   dsimp only at hm hp ⊢
   obtain ⟨hn, hz⟩ := hd _ hp
   refine ⟨fun q => ?_, fun q => ?_⟩
   ·have q := of_decide_eq_true q
    rw [Int.toNat_natCast]
    refine ⟨by omega, q, hs, hz m (by omega), fun h => ⟨hz m (by omega), by unfold in64; omega, ⟨m + 1⟩, ⟨by show m + 1 ≤ _; omega, hp⟩, by show _ - (m + 1) < _ - m; omega, ?_⟩, fun h => ⟨by unfold in64; omega, ⟨m + 1⟩, ⟨by show m + 1 ≤ _; omega, hp⟩, by show _ - (m + 1) < _ - m; omega, ?_⟩⟩
    ·and_intros <;> first | rfl | trivial | exact bstN_pos h
    ·and_intros <;> first | rfl | trivial | exact bstN_neg h
   ·have q := of_decide_eq_false q
    obtain rfl : m = _ := Nat.le_antisymm hm (by omega)
    refine ⟨by unfold in64; omega, ⟨1 + 1⟩, (show 1 + 1 ≤ 4 by decide), by decide, ?_⟩
    and_intros <;> first | rfl | trivial
  ·obtain rfl : i = 2 := by omega
   refine ⟨by decide, by decide, ⟨2⟩, ⟨⟨0⟩, ⟨Nat.zero_le _, by decide⟩, by and_intros <;> first | rfl | trivial⟩, ?_⟩
   rintro ⟨m⟩ ⟨hm, hp⟩
   dsimp only at hm hp ⊢
   obtain ⟨hn, hz⟩ := hd _ hp
   refine ⟨fun q => ?_, fun q => ?_⟩
   ·have q := of_decide_eq_true q
    rw [Int.toNat_natCast]
    refine ⟨by omega, q, hs, hz m (by omega), fun h => ⟨hz m (by omega), by unfold in64; omega, ⟨m + 1⟩, ⟨by show m + 1 ≤ _; omega, hp⟩, by show _ - (m + 1) < _ - m; omega, ?_⟩, fun h => ⟨by unfold in64; omega, ⟨m + 1⟩, ⟨by show m + 1 ≤ _; omega, hp⟩, by show _ - (m + 1) < _ - m; omega, ?_⟩⟩
    ·and_intros <;> first | rfl | trivial | exact bstN_pos h
    ·and_intros <;> first | rfl | trivial | exact bstN_neg h
   ·have q := of_decide_eq_false q
    obtain rfl : m = _ := Nat.le_antisymm hm (by omega)
    refine ⟨by unfold in64; omega, ⟨2 + 1⟩, (show 2 + 1 ≤ 4 by decide), by decide, ?_⟩
    and_intros <;> first | rfl | trivial
  ·obtain rfl : i = 3 := by omega
   refine ⟨by decide, by decide, ⟨3⟩, ⟨⟨0⟩, ⟨Nat.zero_le _, by decide⟩, by and_intros <;> first | rfl | trivial⟩, ?_⟩
   rintro ⟨m⟩ ⟨hm, hp⟩
   dsimp only at hm hp ⊢
   obtain ⟨hn, hz⟩ := hd _ hp
   refine ⟨fun q => ?_, fun q => ?_⟩
   ·have q := of_decide_eq_true q
    rw [Int.toNat_natCast]
    refine ⟨by omega, q, hs, hz m (by omega), fun h => ⟨hz m (by omega), by unfold in64; omega, ⟨m + 1⟩, ⟨by show m + 1 ≤ _; omega, hp⟩, by show _ - (m + 1) < _ - m; omega, ?_⟩, fun h => ⟨by unfold in64; omega, ⟨m + 1⟩, ⟨by show m + 1 ≤ _; omega, hp⟩, by show _ - (m + 1) < _ - m; omega, ?_⟩⟩
    ·and_intros <;> first | rfl | trivial | exact bstN_pos h
    ·and_intros <;> first | rfl | trivial | exact bstN_neg h
   ·have q := of_decide_eq_false q
    obtain rfl : m = _ := Nat.le_antisymm hm (by omega)
    refine ⟨by unfold in64; omega, ⟨3 + 1⟩, (show 3 + 1 ≤ 4 by decide), by decide, ?_⟩
    and_intros <;> first | rfl | trivial
 ·have q : ¬ (i : Int) < 4 := of_decide_eq_false q
  obtain rfl : i = 4 := by omega
  refine ⟨⟨⟨0⟩, Nat.zero_le _, by and_intros <;> first | rfl | trivial | exact fun j hj => absurd hj (Nat.not_lt_zero _)⟩, ?_⟩
  rintro ⟨i⟩ hi
  have hi : i ≤ 4 := hi
  dsimp only
  refine ⟨fun q => ?_, fun q => ?_⟩
  ·have q : (i : Int) < 4 := of_decide_eq_true q
   refine ⟨by omega, fun ek => ?_, fun ek => ?_, fun ek => ?_, fun ek => ?_, trivial⟩
   ·obtain rfl : i = 0 := by omega
    refine ⟨by decide, by decide, ⟨0⟩, ⟨⟨0⟩, ⟨Nat.zero_le _, by decide⟩, by and_intros <;> first | rfl | trivial | exact fun _ _ => rfl⟩, ?_⟩
    rintro ⟨m⟩ ⟨hm, hp⟩
    dsimp only at hm hp ⊢
    obtain ⟨hn, hz⟩ := hd _ hp
    refine ⟨fun q => ?_, fun q => ?_⟩
    ·have q := of_decide_eq_true q
     rw [Int.toNat_natCast]
     refine ⟨by omega, q, fun _ => hs, fun _ => hz m (by omega), fun _ => hz m (by omega), by unfold in64; omega, ⟨m + 1⟩, ⟨by show m + 1 ≤ _; omega, hp⟩, by show _ - (m + 1) < _ - m; omega, ?_⟩
     and_intros <;> first | rfl | trivial | exact fun _ _ => rfl
    ·have q := of_decide_eq_false q
     obtain rfl : m = _ := Nat.le_antisymm hm (by omega)
     have hl := lenI_rtL T s (bstT T s 4) 0
     refine ⟨fun h => ?_, fun h => ?_⟩
     ·have e1 := rtL_pos (T := T) (k := 0) (b := bstT T s 4) h
      have e2 := lenI_app (rtL T s (bstT T s 4) 0) (0 : Nat)
      refine ⟨rfl, by omega, by omega, by unfold in64; omega, ⟨0 + 1⟩, (show 0 + 1 ≤ 4 by decide), by decide, ?_⟩
      and_intros <;> first | rfl | trivial | (show XV.sl 1 1 0 _ = XV.sl 1 1 0 (lenI (rtL T s (bstT T s 4) (0 + 1))); rw [e1, e2]) | (show _ = lenI (rtL T s (bstT T s 4) (0 + 1)); rw [e1, e2]) | (intro j hj; show _ = [XI (getI (rtL T s (bstT T s 4) (0 + 1)) j)]; rw [e1, getI_app _ _ _ hj]; cases Nat.blt j (lenI (rtL T s (bstT T s 4) 0)) <;> rfl)
     ·have e1 := rtL_neg (T := T) (k := 0) (b := bstT T s 4) h
      refine ⟨by unfold in64; omega, ⟨0 + 1⟩, (show 0 + 1 ≤ 4 by decide), by decide, ?_⟩
      and_intros <;> first | rfl | trivial | (show XV.sl 1 1 0 _ = XV.sl 1 1 0 (lenI (rtL T s (bstT T s 4) (0 + 1))); rw [e1]) | (show _ = lenI (rtL T s (bstT T s 4) (0 + 1)); rw [e1]) | (intro j hj; show _ = [XI (getI (rtL T s (bstT T s 4) (0 + 1)) j)]; rw [e1])
   ·obtain rfl : i = 1 := by omega
    refine ⟨by decide, by decide, ⟨1⟩, ⟨⟨0⟩, ⟨Nat.zero_le _, by decide⟩, by and_intros <;> first | rfl | trivial | exact fun _ _ => rfl⟩, ?_⟩
    rintro ⟨m⟩ ⟨hm, hp⟩
    dsimp only at hm hp ⊢
    obtain ⟨hn, hz⟩ := hd _ hp
    refine ⟨fun q => ?_, fun q => ?_⟩
    ·have q := of_decide_eq_true q
     rw [Int.toNat_natCast]
     refine ⟨by omega, q, fun _ => hs, fun _ => hz m (by omega), fun _ => hz m (by omega), by unfold in64; omega, ⟨m + 1⟩, ⟨by show m + 1 ≤ _; omega, hp⟩, by show _ - (m + 1) < _ - m; omega, ?_⟩
     and_intros <;> first | rfl | trivial | exact fun _ _ => rfl
    ·have q := of_decide_eq_false q
     obtain rfl : m = _ := Nat.le_antisymm hm (by omega)
     have hl := lenI_rtL T s (bstT T s 4) 1
     refine ⟨fun h => ?_, fun h => ?_⟩
     ·have e1 := rtL_pos (T := T) (k := 1) (b := bstT T s 4) h
      have e2 := lenI_app (rtL T s (bstT T s 4) 1) (1 : Nat)
      refine ⟨rfl, by omega, by omega, by unfold in64; omega, ⟨1 + 1⟩, (show 1 + 1 ≤ 4 by decide), by decide, ?_⟩
      and_intros <;> first | rfl | trivial | (show XV.sl 1 1 0 _ = XV.sl 1 1 0 (lenI (rtL T s (bstT T s 4) (1 + 1))); rw [e1, e2]) | (show _ = lenI (rtL T s (bstT T s 4) (1 + 1)); rw [e1, e2]) | (intro j hj; show _ = [XI (getI (rtL T s (bstT T s 4) (1 + 1)) j)]; rw [e1, getI_app _ _ _ hj]; cases Nat.blt j (lenI (rtL T s (bstT T s 4) 1)) <;> rfl)
     ·have e1 := rtL_neg (T := T) (k := 1) (b := bstT T s 4) h
      refine ⟨by unfold in64; omega, ⟨1 + 1⟩, (show 1 + 1 ≤ 4 by decide), by decide, ?_⟩
      and_intros <;> first | rfl | trivial | (show XV.sl 1 1 0 _ = XV.sl 1 1 0 (lenI (rtL T s (bstT T s 4) (1 + 1))); rw [e1]) | (show _ = lenI (rtL T s (bstT T s 4) (1 + 1)); rw [e1]) | (intro j hj; show _ = [XI (getI (rtL T s (bstT T s 4) (1 + 1)) j)]; rw [e1])
   ·obtain rfl : i = 2 := by omega
    refine ⟨by decide, by decide, ⟨2⟩, ⟨⟨0⟩, ⟨Nat.zero_le _, by decide⟩, by and_intros <;> first | rfl | trivial | exact fun _ _ => rfl⟩, ?_⟩
    rintro ⟨m⟩ ⟨hm, hp⟩
    dsimp only at hm hp ⊢
    obtain ⟨hn, hz⟩ := hd _ hp
    refine ⟨fun q => ?_, fun q => ?_⟩
    ·have q := of_decide_eq_true q
     rw [Int.toNat_natCast]
     refine ⟨by omega, q, fun _ => hs, fun _ => hz m (by omega), fun _ => hz m (by omega), by unfold in64; omega, ⟨m + 1⟩, ⟨by show m + 1 ≤ _; omega, hp⟩, by show _ - (m + 1) < _ - m; omega, ?_⟩
     and_intros <;> first | rfl | trivial | exact fun _ _ => rfl
    ·have q := of_decide_eq_false q
     obtain rfl : m = _ := Nat.le_antisymm hm (by omega)
     have hl := lenI_rtL T s (bstT T s 4) 2
     refine ⟨fun h => ?_, fun h => ?_⟩
     ·have e1 := rtL_pos (T := T) (k := 2) (b := bstT T s 4) h
      have e2 := lenI_app (rtL T s (bstT T s 4) 2) (2 : Nat)
      refine ⟨rfl, by omega, by omega, by unfold in64; omega, ⟨2 + 1⟩, (show 2 + 1 ≤ 4 by decide), by decide, ?_⟩
      and_intros <;> first | rfl | trivial | (show XV.sl 1 1 0 _ = XV.sl 1 1 0 (lenI (rtL T s (bstT T s 4) (2 + 1))); rw [e1, e2]) | (show _ = lenI (rtL T s (bstT T s 4) (2 + 1)); rw [e1, e2]) | (intro j hj; show _ = [XI (getI (rtL T s (bstT T s 4) (2 + 1)) j)]; rw [e1, getI_app _ _ _ hj]; cases Nat.blt j (lenI (rtL T s (bstT T s 4) 2)) <;> rfl)
     ·have e1 := rtL_neg (T := T) (k := 2) (b := bstT T s 4) h
      refine ⟨by unfold in64; omega, ⟨2 + 1⟩, (show 2 + 1 ≤ 4 by decide), by decide, ?_⟩
      and_intros <;> first | rfl | trivial | (show XV.sl 1 1 0 _ = XV.sl 1 1 0 (lenI (rtL T s (bstT T s 4) (2 + 1))); rw [e1]) | (show _ = lenI (rtL T s (bstT T s 4) (2 + 1)); rw [e1]) | (intro j hj; show _ = [XI (getI (rtL T s (bstT T s 4) (2 + 1)) j)]; rw [e1])
   ·obtain rfl : i = 3 := by omega
    refine ⟨by decide, by decide, ⟨3⟩, ⟨⟨0⟩, ⟨Nat.zero_le _, by decide⟩, by and_intros <;> first | rfl | trivial | exact fun _ _ => rfl⟩, ?_⟩
    rintro ⟨m⟩ ⟨hm, hp⟩
    dsimp only at hm hp ⊢
    obtain ⟨hn, hz⟩ := hd _ hp
    refine ⟨fun q => ?_, fun q => ?_⟩
    ·have q := of_decide_eq_true q
     rw [Int.toNat_natCast]
     refine ⟨by omega, q, fun _ => hs, fun _ => hz m (by omega), fun _ => hz m (by omega), by unfold in64; omega, ⟨m + 1⟩, ⟨by show m + 1 ≤ _; omega, hp⟩, by show _ - (m + 1) < _ - m; omega, ?_⟩
     and_intros <;> first | rfl | trivial | exact fun _ _ => rfl
    ·have q := of_decide_eq_false q
     obtain rfl : m = _ := Nat.le_antisymm hm (by omega)
     have hl := lenI_rtL T s (bstT T s 4) 3
     refine ⟨fun h => ?_, fun h => ?_⟩
     ·have e1 := rtL_pos (T := T) (k := 3) (b := bstT T s 4) h
      have e2 := lenI_app (rtL T s (bstT T s 4) 3) (3 : Nat)
      refine ⟨rfl, by omega, by omega, by unfold in64; omega, ⟨3 + 1⟩, (show 3 + 1 ≤ 4 by decide), by decide, ?_⟩
      and_intros <;> first | rfl | trivial | (show XV.sl 1 1 0 _ = XV.sl 1 1 0 (lenI (rtL T s (bstT T s 4) (3 + 1))); rw [e1, e2]) | (show _ = lenI (rtL T s (bstT T s 4) (3 + 1)); rw [e1, e2]) | (intro j hj; show _ = [XI (getI (rtL T s (bstT T s 4) (3 + 1)) j)]; rw [e1, getI_app _ _ _ hj]; cases Nat.blt j (lenI (rtL T s (bstT T s 4) 3)) <;> rfl)
     ·have e1 := rtL_neg (T := T) (k := 3) (b := bstT T s 4) h
      refine ⟨by unfold in64; omega, ⟨3 + 1⟩, (show 3 + 1 ≤ 4 by decide), by decide, ?_⟩
      and_intros <;> first | rfl | trivial | (show XV.sl 1 1 0 _ = XV.sl 1 1 0 (lenI (rtL T s (bstT T s 4) (3 + 1))); rw [e1]) | (show _ = lenI (rtL T s (bstT T s 4) (3 + 1)); rw [e1]) | (intro j hj; show _ = [XI (getI (rtL T s (bstT T s 4) (3 + 1)) j)]; rw [e1])
  ·have q : ¬ (i : Int) < 4 := of_decide_eq_false q
   obtain rfl : i = 4 := by omega
   and_intros <;> first | rfl | trivial | exact fun _ _ => rfl
def rtC0 : TT := TT1 dTab dStr (fun T s => [s.size ≤ 1000000, okT T]) (fun T s => intsF (rtL T s (bstT T s 4) 4)) fun T _ => T
theorem cxR_ok : cxR.ok Tryd.prog := (cx0_ok.addC cnl_ok).addC und_ok
theorem rt_ok : ITok Tryd.prog 14 (itT rtC0) := TT1_ok cxR_ok Tryd.func14 rfl (by decide) dTab_ok dStr_eq.ok (by kernel_rfl) (fun _ _ => rfl) fun T s hc => exvT (fun e ap => rtV_eq T s e ap) fun e ap => rt_v T s e ap (hc _ (.head _)) (hc _ (.tail _ (.head _)))
end Go.Proofs.YtaglpckihegmoaaDoorAv
namespace Go.Proofs.YtaglpckihegmoaaDoorAv
open Go Go.RowKit
theorem fp_JF {P : Program} {X : Cx} (hX : X.ok P) {f : FuncId} {fn : Func} (hf : P.funcs[f]? = some fn) (hb : fn.body = some (bodyOf fn)) {cells : List XV} {v : XV} (hv : v.pd = true) (hn : Nat.ble 1 fn.ntmps = true) {sc : Sc} (h : funC X fn sc [.fp cells] v) (ρ : Rho) (b : AV) (hb2 : RV ρ (.fp cells) b) (L : GH) :
  JF P f [b] L fun r L' => r = toAV v ∧ L' = L := by
 have hn' : [b].length ≤ fn.ntmps := by
  rw [bleN, decide_eq_true_eq] at hn; exact hn
 have h0 : RVL noRho [.fp cells] [b] := by
  simp only [RV] at hb2
  simp only [RVL, RV]
  exact ⟨hb2, trivial⟩
 refine (fun_ok hX hf hb hn' (rel0 h0) h).conv ?_
 rintro b L1 w x ⟨ρ', S', t', xv, hR, hv', hq⟩ hrows hx
 exact ⟨toAV v, L, RX_VS hR hrows (dom_F hR) (off_F hR) v xv b x hv hq hv' hx, rows_F hR hrows, dom_F hR, rfl, rfl⟩
def clnC : CT
 | [.fp [a, b]] => match intO a, nilO b with
  | some _, true => some ([], XI 0)
  | _, _ => none
 | _ => none
def z16 : List XV := [X8 0, X8 0, X8 0, X8 0, X8 0, X8 0, X8 0, X8 0, X8 0, X8 0, X8 0, X8 0, X8 0, X8 0, X8 0, X8 0]
def fitK (d : ByteArray) : Lnk := ⟨false, 0, ⟨1, fun _ => d⟩, false, false, ⟨1, fun _ => z16⟩, ⟨0, fun _ => []⟩⟩
def fitT1 : LTab := setTb tab0 0 (fitK ⟨#[99, 111, 114, 112]⟩)
def fitT2 : LTab := setTb fitT1 1 (fitK ⟨#[46]⟩)
def newM0 : NT
 | [] => some ([], [XB false, XI 0, Xnil, XB false, XB false, Xnil, Xnil, XB false, XI 0, Xnil, XB false, XB false, Xnil, Xnil, XB false, XI 0, Xnil, XB false, XB false, Xnil, Xnil, XB false, XI 0, Xnil, XB false, XB false, Xnil, Xnil, .v (.p (.pointer none)), .v (.p (.pointer none)), .v (.p (.pointer none)), .v (.p (.pointer none)), XI 0])
 | _ => none
def newM : NT
 | [] => some ([], tabX tab0)
 | _ => none
def cxD : Cx := { cx0 with C := [(28, cnwC), (25, clnC), (29, cnlC), (21, dotC)], Z := true, L := [(12, itNew 70 newM), (13, itT setC), (14, itT rtC0)] }
def fiA : Inv where
 σ := IL
 S := fun _ => ⟨[(1, .ptr 0 0 0 0), (2, .v (.p (.int .i64 0)))], [(0, .one 70 true (tabX fitT1))], 1, false, []⟩
 inv := fun _ => True
 μ := fun _ => 0
def fiB : Inv where
 σ := IL
 S := fun _ => ⟨[(1, .ptr 0 0 0 0), (2, .v (.p (.int .i64 0))), (3, .v (.p (.int .i64 0)))], [(0, .one 70 true (tabX fitT2))], 1, false, []⟩
 inv := fun _ => True
 μ := fun _ => 0
def fi0 : Inv where
 σ := IL
 S := fun _ => ⟨[(1, .ptr 0 0 0 0)], [(0, .one 70 true (tabX tab0))], 1, false, []⟩
 inv := fun _ => True
 μ := fun _ => 0
def fiE : Env := { cuts := [(2, fi0), (3, fiA), (4, fiB)] }
def nwV  : Prop :=
 ((70 : Nat) = (70 : TypeId) ∧ true = true) ∧ false = false ∧ (0 : Int) = (0 : Int) ∧ Xnil = Xnil ∧ false = false ∧ false = false ∧ Xnil = Xnil ∧ Xnil = Xnil ∧ false = false ∧ (0 : Int) = (0 : Int) ∧ Xnil = Xnil ∧ false = false ∧ false = false ∧ Xnil = Xnil ∧ Xnil = Xnil ∧ false = false ∧ (0 : Int) = (0 : Int) ∧ Xnil = Xnil ∧ false = false ∧ false = false ∧ Xnil = Xnil ∧ Xnil = Xnil ∧ false = false ∧ (0 : Int) = (0 : Int) ∧ Xnil = Xnil ∧ false = false ∧ false = false ∧ Xnil = Xnil ∧ Xnil = Xnil ∧ XV.v (AV.p (Value.pointer none)) = XV.v (AV.p (Value.pointer none)) ∧ XV.v (AV.p (Value.pointer none)) = XV.v (AV.p (Value.pointer none)) ∧ XV.v (AV.p (Value.pointer none)) = XV.v (AV.p (Value.pointer none)) ∧ XV.v (AV.p (Value.pointer none)) = XV.v (AV.p (Value.pointer none)) ∧ (0 : Int) = (0 : Int) ∧ True
theorem nwV_eq  : nwV  = (funN cx0 Tryd.f12 .nil [] 70 [XB false, XI 0, Xnil, XB false, XB false, Xnil, Xnil, XB false, XI 0, Xnil, XB false, XB false, Xnil, Xnil, XB false, XI 0, Xnil, XB false, XB false, Xnil, Xnil, XB false, XI 0, Xnil, XB false, XB false, Xnil, Xnil, .v (.p (.pointer none)), .v (.p (.pointer none)), .v (.p (.pointer none)), .v (.p (.pointer none)), XI 0]) := by kernel_rfl
def clnV (i : Int) : Prop :=
 (false = true → (0 : Int) = (0 : Int)) ∧ (false = false → (↑(0 : Nat) : Int) = (0 : Int))
theorem clnV_eq (i : Int) : clnV i = (funC cx0 Tryd.f25 .nil [.fp [XI i, Xnil]] (XI 0)) := by kernel_rfl
def fitV_a :=
 (↑(lenI (rtL { l0 := { live := fitT2.l0.live, gen := fitT2.l0.gen, dom := { n := fitT2.l0.dom.n, g := fun (i : Nat) => (fun (l : List XV) => strD (xget l 0)) ((fun (j : Nat) => [XT (fitT2.l0.dom.g j)]) i) : Sq ByteArray }, dft := fitT2.l0.dft, ll := fitT2.l0.ll, srv := { n := fitT2.l0.srv.n, g := fitT2.l0.srv.g : Sq (List XV) }, loc := { n := fitT2.l0.loc.n, g := fitT2.l0.loc.g : Sq (List XV) } : Lnk }, l1 := { live := fitT2.l1.live, gen := fitT2.l1.gen, dom := { n := fitT2.l1.dom.n, g := fun (i : Nat) => (fun (l : List XV) => strD (xget l 0)) ((fun (j : Nat) => [XT (fitT2.l1.dom.g j)]) i) : Sq ByteArray }, dft := fitT2.l1.dft, ll := fitT2.l1.ll, srv := { n := fitT2.l1.srv.n, g := fitT2.l1.srv.g : Sq (List XV) }, loc := { n := fitT2.l1.loc.n, g := fitT2.l1.loc.g : Sq (List XV) } : Lnk }, l2 := { live := fitT2.l2.live, gen := fitT2.l2.gen, dom := { n := fitT2.l2.dom.n, g := fun (i : Nat) => (fun (l : List XV) => strD (xget l 0)) ((fun (j : Nat) => [XT (fitT2.l2.dom.g j)]) i) : Sq ByteArray }, dft := fitT2.l2.dft, ll := fitT2.l2.ll, srv := { n := fitT2.l2.srv.n, g := fitT2.l2.srv.g : Sq (List XV) }, loc := { n := fitT2.l2.loc.n, g := fitT2.l2.loc.g : Sq (List XV) } : Lnk }, l3 := { live := fitT2.l3.live, gen := fitT2.l3.gen, dom := { n := fitT2.l3.dom.n, g := fun (i : Nat) => (fun (l : List XV) => strD (xget l 0)) ((fun (j : Nat) => [XT (fitT2.l3.dom.g j)]) i) : Sq ByteArray }, dft := fitT2.l3.dft, ll := fitT2.l3.ll, srv := { n := fitT2.l3.srv.n, g := fitT2.l3.srv.g : Sq (List XV) }, loc := { n := fitT2.l3.loc.n, g := fitT2.l3.loc.g : Sq (List XV) } : Lnk }, g := fitT2.g : LTab } ⟨#[97, 46, 99, 111, 114, 112]⟩ (bstT { l0 := { live := fitT2.l0.live, gen := fitT2.l0.gen, dom := { n := fitT2.l0.dom.n, g := fun (i : Nat) => (fun (l : List XV) => strD (xget l 0)) ((fun (j : Nat) => [XT (fitT2.l0.dom.g j)]) i) : Sq ByteArray }, dft := fitT2.l0.dft, ll := fitT2.l0.ll, srv := { n := fitT2.l0.srv.n, g := fitT2.l0.srv.g : Sq (List XV) }, loc := { n := fitT2.l0.loc.n, g := fitT2.l0.loc.g : Sq (List XV) } : Lnk }, l1 := { live := fitT2.l1.live, gen := fitT2.l1.gen, dom := { n := fitT2.l1.dom.n, g := fun (i : Nat) => (fun (l : List XV) => strD (xget l 0)) ((fun (j : Nat) => [XT (fitT2.l1.dom.g j)]) i) : Sq ByteArray }, dft := fitT2.l1.dft, ll := fitT2.l1.ll, srv := { n := fitT2.l1.srv.n, g := fitT2.l1.srv.g : Sq (List XV) }, loc := { n := fitT2.l1.loc.n, g := fitT2.l1.loc.g : Sq (List XV) } : Lnk }, l2 := { live := fitT2.l2.live, gen := fitT2.l2.gen, dom := { n := fitT2.l2.dom.n, g := fun (i : Nat) => (fun (l : List XV) => strD (xget l 0)) ((fun (j : Nat) => [XT (fitT2.l2.dom.g j)]) i) : Sq ByteArray }, dft := fitT2.l2.dft, ll := fitT2.l2.ll, srv := { n := fitT2.l2.srv.n, g := fitT2.l2.srv.g : Sq (List XV) }, loc := { n := fitT2.l2.loc.n, g := fitT2.l2.loc.g : Sq (List XV) } : Lnk }, l3 := { live := fitT2.l3.live, gen := fitT2.l3.gen, dom := { n := fitT2.l3.dom.n, g := fun (i : Nat) => (fun (l : List XV) => strD (xget l 0)) ((fun (j : Nat) => [XT (fitT2.l3.dom.g j)]) i) : Sq ByteArray }, dft := fitT2.l3.dft, ll := fitT2.l3.ll, srv := { n := fitT2.l3.srv.n, g := fitT2.l3.srv.g : Sq (List XV) }, loc := { n := fitT2.l3.loc.n, g := fitT2.l3.loc.g : Sq (List XV) } : Lnk }, g := fitT2.g : LTab } ⟨#[97, 46, 99, 111, 114, 112]⟩ 4) 4)) : Int)
def fitV  : Prop :=
 (∃ (x : fi0.σ), True ∧ true = true ∧ XV.ptr 0 0 0 0 = XV.ptr 0 0 0 0 ∧ (((70 : TypeId) = (70 : TypeId) ∧ true = true) ∧ tab0.l0.live = tab0.l0.live ∧ tab0.l0.gen = tab0.l0.gen ∧ ((XV.fz tab0.l0.dom.n 1 fun (j : Nat) => [XT (tab0.l0.dom.g j)]) = XV.fz tab0.l0.dom.n 1 fun (j : Nat) => [XT (tab0.l0.dom.g j)]) ∧ tab0.l0.dft = tab0.l0.dft ∧ tab0.l0.ll = tab0.l0.ll ∧ XV.fz tab0.l0.srv.n 16 tab0.l0.srv.g = XV.fz tab0.l0.srv.n 16 tab0.l0.srv.g ∧ XV.fz tab0.l0.loc.n 18 tab0.l0.loc.g = XV.fz tab0.l0.loc.n 18 tab0.l0.loc.g ∧ tab0.l1.live = tab0.l1.live ∧ tab0.l1.gen = tab0.l1.gen ∧ ((XV.fz tab0.l1.dom.n 1 fun (j : Nat) => [XT (tab0.l1.dom.g j)]) = XV.fz tab0.l1.dom.n 1 fun (j : Nat) => [XT (tab0.l1.dom.g j)]) ∧ tab0.l1.dft = tab0.l1.dft ∧ tab0.l1.ll = tab0.l1.ll ∧ XV.fz tab0.l1.srv.n 16 tab0.l1.srv.g = XV.fz tab0.l1.srv.n 16 tab0.l1.srv.g ∧ XV.fz tab0.l1.loc.n 18 tab0.l1.loc.g = XV.fz tab0.l1.loc.n 18 tab0.l1.loc.g ∧ tab0.l2.live = tab0.l2.live ∧ tab0.l2.gen = tab0.l2.gen ∧ ((XV.fz tab0.l2.dom.n 1 fun (j : Nat) => [XT (tab0.l2.dom.g j)]) = XV.fz tab0.l2.dom.n 1 fun (j : Nat) => [XT (tab0.l2.dom.g j)]) ∧ tab0.l2.dft = tab0.l2.dft ∧ tab0.l2.ll = tab0.l2.ll ∧ XV.fz tab0.l2.srv.n 16 tab0.l2.srv.g = XV.fz tab0.l2.srv.n 16 tab0.l2.srv.g ∧ XV.fz tab0.l2.loc.n 18 tab0.l2.loc.g = XV.fz tab0.l2.loc.n 18 tab0.l2.loc.g ∧ tab0.l3.live = tab0.l3.live ∧ tab0.l3.gen = tab0.l3.gen ∧ ((XV.fz tab0.l3.dom.n 1 fun (j : Nat) => [XT (tab0.l3.dom.g j)]) = XV.fz tab0.l3.dom.n 1 fun (j : Nat) => [XT (tab0.l3.dom.g j)]) ∧ tab0.l3.dft = tab0.l3.dft ∧ tab0.l3.ll = tab0.l3.ll ∧ XV.fz tab0.l3.srv.n 16 tab0.l3.srv.g = XV.fz tab0.l3.srv.n 16 tab0.l3.srv.g ∧ XV.fz tab0.l3.loc.n 18 tab0.l3.loc.g = XV.fz tab0.l3.loc.n 18 tab0.l3.loc.g ∧ XV.top = XV.top ∧ XV.top = XV.top ∧ XV.top = XV.top ∧ XV.top = XV.top ∧ tab0.g = tab0.g ∧ True) ∧ True) ∧ ∀ (x : IL), True → ((0 : Int) ≤ (1 : Int) ∧ (1 : Int) ≤ (1 : Int) ∧ (16 : Nat) ≤ (140737488355328 : Nat) ∧ (1 : Int) ≤ (140737488355328 : Int) ∧ (∀ (i : Nat), i < tab0.l0.dom.n → [XT (tab0.l0.dom.g i)] = [XT (tab0.l0.dom.g i)]) ∧ (∀ (i : Nat), i < tab0.l1.dom.n → [XT (tab0.l1.dom.g i)] = [XT (tab0.l1.dom.g i)]) ∧ (∀ (i : Nat), i < tab0.l2.dom.n → [XT (tab0.l2.dom.g i)] = [XT (tab0.l2.dom.g i)]) ∧ (∀ (i : Nat), i < tab0.l3.dom.n → [XT (tab0.l3.dom.g i)] = [XT (tab0.l3.dom.g i)]) ∧ (∀ (i : Nat), i < (1 : Nat) → [XT (⟨#[99, 111, 114, 112]⟩)] = [XT (⟨#[99, 111, 114, 112]⟩)]) ∧ (1 : Nat) ≤ (1000000000 : Nat) ∧ ((-4611686018427387904 : Int) ≤ tab0.g ∧ tab0.g ≤ (4611686018427387904 : Int)) ∧ ∃ (x : fiA.σ), True ∧ true = true ∧ XV.ptr 0 0 0 0 = XV.ptr 0 0 0 0 ∧ setN 0 { live := false, gen := (0 : Int), dom := { n := (1 : Nat), g := fun (i : Nat) => ⟨#[99, 111, 114, 112]⟩ : Sq ByteArray }, dft := false, ll := false, srv := { n := (1 : Nat), g := fun (x : Nat) => [X8 0, X8 0, X8 0, X8 0, X8 0, X8 0, X8 0, X8 0, X8 0, X8 0, X8 0, X8 0, X8 0, X8 0, X8 0, X8 0] : Sq (List XV) }, loc := { n := (0 : Nat), g := fun (x : Nat) => [] : Sq (List XV) } : Lnk } = (0 : Int) ∧ (((70 : TypeId) = (70 : TypeId) ∧ true = true) ∧ (setTb tab0 0 { live := false, gen := (0 : Int), dom := { n := (1 : Nat), g := fun (i : Nat) => ⟨#[99, 111, 114, 112]⟩ : Sq ByteArray }, dft := false, ll := false, srv := { n := (1 : Nat), g := fun (x : Nat) => [X8 0, X8 0, X8 0, X8 0, X8 0, X8 0, X8 0, X8 0, X8 0, X8 0, X8 0, X8 0, X8 0, X8 0, X8 0, X8 0] : Sq (List XV) }, loc := { n := (0 : Nat), g := fun (x : Nat) => [] : Sq (List XV) } : Lnk }).l0.live = fitT1.l0.live ∧ (setTb tab0 0 { live := false, gen := (0 : Int), dom := { n := (1 : Nat), g := fun (i : Nat) => ⟨#[99, 111, 114, 112]⟩ : Sq ByteArray }, dft := false, ll := false, srv := { n := (1 : Nat), g := fun (x : Nat) => [X8 0, X8 0, X8 0, X8 0, X8 0, X8 0, X8 0, X8 0, X8 0, X8 0, X8 0, X8 0, X8 0, X8 0, X8 0, X8 0] : Sq (List XV) }, loc := { n := (0 : Nat), g := fun (x : Nat) => [] : Sq (List XV) } : Lnk }).l0.gen = fitT1.l0.gen ∧ ((XV.fz (setTb tab0 0 { live := false, gen := (0 : Int), dom := { n := (1 : Nat), g := fun (i : Nat) => ⟨#[99, 111, 114, 112]⟩ : Sq ByteArray }, dft := false, ll := false, srv := { n := (1 : Nat), g := fun (x : Nat) => [X8 0, X8 0, X8 0, X8 0, X8 0, X8 0, X8 0, X8 0, X8 0, X8 0, X8 0, X8 0, X8 0, X8 0, X8 0, X8 0] : Sq (List XV) }, loc := { n := (0 : Nat), g := fun (x : Nat) => [] : Sq (List XV) } : Lnk }).l0.dom.n 1 fun (j : Nat) => [XT ((setTb tab0 0 { live := false, gen := (0 : Int), dom := { n := (1 : Nat), g := fun (i : Nat) => ⟨#[99, 111, 114, 112]⟩ : Sq ByteArray }, dft := false, ll := false, srv := { n := (1 : Nat), g := fun (x : Nat) => [X8 0, X8 0, X8 0, X8 0, X8 0, X8 0, X8 0, X8 0, X8 0, X8 0, X8 0, X8 0, X8 0, X8 0, X8 0, X8 0] : Sq (List XV) }, loc := { n := (0 : Nat), g := fun (x : Nat) => [] : Sq (List XV) } : Lnk }).l0.dom.g j)]) = XV.fz fitT1.l0.dom.n 1 fun (j : Nat) => [XT (fitT1.l0.dom.g j)]) ∧ (setTb tab0 0 { live := false, gen := (0 : Int), dom := { n := (1 : Nat), g := fun (i : Nat) => ⟨#[99, 111, 114, 112]⟩ : Sq ByteArray }, dft := false, ll := false, srv := { n := (1 : Nat), g := fun (x : Nat) => [X8 0, X8 0, X8 0, X8 0, X8 0, X8 0, X8 0, X8 0, X8 0, X8 0, X8 0, X8 0, X8 0, X8 0, X8 0, X8 0] : Sq (List XV) }, loc := { n := (0 : Nat), g := fun (x : Nat) => [] : Sq (List XV) } : Lnk }).l0.dft = fitT1.l0.dft ∧ (setTb tab0 0 { live := false, gen := (0 : Int), dom := { n := (1 : Nat), g := fun (i : Nat) => ⟨#[99, 111, 114, 112]⟩ : Sq ByteArray }, dft := false, ll := false, srv := { n := (1 : Nat), g := fun (x : Nat) => [X8 0, X8 0, X8 0, X8 0, X8 0, X8 0, X8 0, X8 0, X8 0, X8 0, X8 0, X8 0, X8 0, X8 0, X8 0, X8 0] : Sq (List XV) }, loc := { n := (0 : Nat), g := fun (x : Nat) => [] : Sq (List XV) } : Lnk }).l0.ll = fitT1.l0.ll ∧ XV.fz (setTb tab0 0 { live := false, gen := (0 : Int), dom := { n := (1 : Nat), g := fun (i : Nat) => ⟨#[99, 111, 114, 112]⟩ : Sq ByteArray }, dft := false, ll := false, srv := { n := (1 : Nat), g := fun (x : Nat) => [X8 0, X8 0, X8 0, X8 0, X8 0, X8 0, X8 0, X8 0, X8 0, X8 0, X8 0, X8 0, X8 0, X8 0, X8 0, X8 0] : Sq (List XV) }, loc := { n := (0 : Nat), g := fun (x : Nat) => [] : Sq (List XV) } : Lnk }).l0.srv.n 16 (setTb tab0 0 { live := false, gen := (0 : Int), dom := { n := (1 : Nat), g := fun (i : Nat) => ⟨#[99, 111, 114, 112]⟩ : Sq ByteArray }, dft := false, ll := false, srv := { n := (1 : Nat), g := fun (x : Nat) => [X8 0, X8 0, X8 0, X8 0, X8 0, X8 0, X8 0, X8 0, X8 0, X8 0, X8 0, X8 0, X8 0, X8 0, X8 0, X8 0] : Sq (List XV) }, loc := { n := (0 : Nat), g := fun (x : Nat) => [] : Sq (List XV) } : Lnk }).l0.srv.g = XV.fz fitT1.l0.srv.n 16 fitT1.l0.srv.g ∧ XV.fz (setTb tab0 0 { live := false, gen := (0 : Int), dom := { n := (1 : Nat), g := fun (i : Nat) => ⟨#[99, 111, 114, 112]⟩ : Sq ByteArray }, dft := false, ll := false, srv := { n := (1 : Nat), g := fun (x : Nat) => [X8 0, X8 0, X8 0, X8 0, X8 0, X8 0, X8 0, X8 0, X8 0, X8 0, X8 0, X8 0, X8 0, X8 0, X8 0, X8 0] : Sq (List XV) }, loc := { n := (0 : Nat), g := fun (x : Nat) => [] : Sq (List XV) } : Lnk }).l0.loc.n 18 (setTb tab0 0 { live := false, gen := (0 : Int), dom := { n := (1 : Nat), g := fun (i : Nat) => ⟨#[99, 111, 114, 112]⟩ : Sq ByteArray }, dft := false, ll := false, srv := { n := (1 : Nat), g := fun (x : Nat) => [X8 0, X8 0, X8 0, X8 0, X8 0, X8 0, X8 0, X8 0, X8 0, X8 0, X8 0, X8 0, X8 0, X8 0, X8 0, X8 0] : Sq (List XV) }, loc := { n := (0 : Nat), g := fun (x : Nat) => [] : Sq (List XV) } : Lnk }).l0.loc.g = XV.fz fitT1.l0.loc.n 18 fitT1.l0.loc.g ∧ (setTb tab0 0 { live := false, gen := (0 : Int), dom := { n := (1 : Nat), g := fun (i : Nat) => ⟨#[99, 111, 114, 112]⟩ : Sq ByteArray }, dft := false, ll := false, srv := { n := (1 : Nat), g := fun (x : Nat) => [X8 0, X8 0, X8 0, X8 0, X8 0, X8 0, X8 0, X8 0, X8 0, X8 0, X8 0, X8 0, X8 0, X8 0, X8 0, X8 0] : Sq (List XV) }, loc := { n := (0 : Nat), g := fun (x : Nat) => [] : Sq (List XV) } : Lnk }).l1.live = fitT1.l1.live ∧ (setTb tab0 0 { live := false, gen := (0 : Int), dom := { n := (1 : Nat), g := fun (i : Nat) => ⟨#[99, 111, 114, 112]⟩ : Sq ByteArray }, dft := false, ll := false, srv := { n := (1 : Nat), g := fun (x : Nat) => [X8 0, X8 0, X8 0, X8 0, X8 0, X8 0, X8 0, X8 0, X8 0, X8 0, X8 0, X8 0, X8 0, X8 0, X8 0, X8 0] : Sq (List XV) }, loc := { n := (0 : Nat), g := fun (x : Nat) => [] : Sq (List XV) } : Lnk }).l1.gen = fitT1.l1.gen ∧ ((XV.fz (setTb tab0 0 { live := false, gen := (0 : Int), dom := { n := (1 : Nat), g := fun (i : Nat) => ⟨#[99, 111, 114, 112]⟩ : Sq ByteArray }, dft := false, ll := false, srv := { n := (1 : Nat), g := fun (x : Nat) => [X8 0, X8 0, X8 0, X8 0, X8 0, X8 0, X8 0, X8 0, X8 0, X8 0, X8 0, X8 0, X8 0, X8 0, X8 0, X8 0] : Sq (List XV) }, loc := { n := (0 : Nat), g := fun (x : Nat) => [] : Sq (List XV) } : Lnk }).l1.dom.n 1 fun (j : Nat) => [XT ((setTb tab0 0 { live := false, gen := (0 : Int), dom := { n := (1 : Nat), g := fun (i : Nat) => ⟨#[99, 111, 114, 112]⟩ : Sq ByteArray }, dft := false, ll := false, srv := { n := (1 : Nat), g := fun (x : Nat) => [X8 0, X8 0, X8 0, X8 0, X8 0, X8 0, X8 0, X8 0, X8 0, X8 0, X8 0, X8 0, X8 0, X8 0, X8 0, X8 0] : Sq (List XV) }, loc := { n := (0 : Nat), g := fun (x : Nat) => [] : Sq (List XV) } : Lnk }).l1.dom.g j)]) = XV.fz fitT1.l1.dom.n 1 fun (j : Nat) => [XT (fitT1.l1.dom.g j)]) ∧ (setTb tab0 0 { live := false, gen := (0 : Int), dom := { n := (1 : Nat), g := fun (i : Nat) => ⟨#[99, 111, 114, 112]⟩ : Sq ByteArray }, dft := false, ll := false, srv := { n := (1 : Nat), g := fun (x : Nat) => [X8 0, X8 0, X8 0, X8 0, X8 0, X8 0, X8 0, X8 0, X8 0, X8 0, X8 0, X8 0, X8 0, X8 0, X8 0, X8 0] : Sq (List XV) }, loc := { n := (0 : Nat), g := fun (x : Nat) => [] : Sq (List XV) } : Lnk }).l1.dft = fitT1.l1.dft ∧ (setTb tab0 0 { live := false, gen := (0 : Int), dom := { n := (1 : Nat), g := fun (i : Nat) => ⟨#[99, 111, 114, 112]⟩ : Sq ByteArray }, dft := false, ll := false, srv := { n := (1 : Nat), g := fun (x : Nat) => [X8 0, X8 0, X8 0, X8 0, X8 0, X8 0, X8 0, X8 0, X8 0, X8 0, X8 0, X8 0, X8 0, X8 0, X8 0, X8 0] : Sq (List XV) }, loc := { n := (0 : Nat), g := fun (x : Nat) => [] : Sq (List XV) } : Lnk }).l1.ll = fitT1.l1.ll ∧ XV.fz (setTb tab0 0 { live := false, gen := (0 : Int), dom := { n := (1 : Nat), g := fun (i : Nat) => ⟨#[99, 111, 114, 112]⟩ : Sq ByteArray }, dft := false, ll := false, srv := { n := (1 : Nat), g := fun (x : Nat) => [X8 0, X8 0, X8 0, X8 0, X8 0, X8 0, X8 0, X8 0, X8 0, X8 0, X8 0, X8 0, X8 0, X8 0, X8 0, X8 0] : Sq (List XV) }, loc := { n := (0 : Nat), g := fun (x : Nat) => [] : Sq (List XV) } : Lnk }).l1.srv.n 16 (setTb tab0 0 { live := false, gen := (0 : Int), dom := { n := (1 : Nat), g := fun (i : Nat) => ⟨#[99, 111, 114, 112]⟩ : Sq ByteArray }, dft := false, ll := false, srv := { n := (1 : Nat), g := fun (x : Nat) => [X8 0, X8 0, X8 0, X8 0, X8 0, X8 0, X8 0, X8 0, X8 0, X8 0, X8 0, X8 0, X8 0, X8 0, X8 0, X8 0] : Sq (List XV) }, loc := { n := (0 : Nat), g := fun (x : Nat) => [] : Sq (List XV) } : Lnk }).l1.srv.g = XV.fz fitT1.l1.srv.n 16 fitT1.l1.srv.g ∧ XV.fz (setTb tab0 0 { live := false, gen := (0 : Int), dom := { n := (1 : Nat), g := fun (i : Nat) => ⟨#[99, 111, 114, 112]⟩ : Sq ByteArray }, dft := false, ll := false, srv := { n := (1 : Nat), g := fun (x : Nat) => [X8 0, X8 0, X8 0, X8 0, X8 0, X8 0, X8 0, X8 0, X8 0, X8 0, X8 0, X8 0, X8 0, X8 0, X8 0, X8 0] : Sq (List XV) }, loc := { n := (0 : Nat), g := fun (x : Nat) => [] : Sq (List XV) } : Lnk }).l1.loc.n 18 (setTb tab0 0 { live := false, gen := (0 : Int), dom := { n := (1 : Nat), g := fun (i : Nat) => ⟨#[99, 111, 114, 112]⟩ : Sq ByteArray }, dft := false, ll := false, srv := { n := (1 : Nat), g := fun (x : Nat) => [X8 0, X8 0, X8 0, X8 0, X8 0, X8 0, X8 0, X8 0, X8 0, X8 0, X8 0, X8 0, X8 0, X8 0, X8 0, X8 0] : Sq (List XV) }, loc := { n := (0 : Nat), g := fun (x : Nat) => [] : Sq (List XV) } : Lnk }).l1.loc.g = XV.fz fitT1.l1.loc.n 18 fitT1.l1.loc.g ∧ (setTb tab0 0 { live := false, gen := (0 : Int), dom := { n := (1 : Nat), g := fun (i : Nat) => ⟨#[99, 111, 114, 112]⟩ : Sq ByteArray }, dft := false, ll := false, srv := { n := (1 : Nat), g := fun (x : Nat) => [X8 0, X8 0, X8 0, X8 0, X8 0, X8 0, X8 0, X8 0, X8 0, X8 0, X8 0, X8 0, X8 0, X8 0, X8 0, X8 0] : Sq (List XV) }, loc := { n := (0 : Nat), g := fun (x : Nat) => [] : Sq (List XV) } : Lnk }).l2.live = fitT1.l2.live ∧ (setTb tab0 0 { live := false, gen := (0 : Int), dom := { n := (1 : Nat), g := fun (i : Nat) => ⟨#[99, 111, 114, 112]⟩ : Sq ByteArray }, dft := false, ll := false, srv := { n := (1 : Nat), g := fun (x : Nat) => [X8 0, X8 0, X8 0, X8 0, X8 0, X8 0, X8 0, X8 0, X8 0, X8 0, X8 0, X8 0, X8 0, X8 0, X8 0, X8 0] : Sq (List XV) }, loc := { n := (0 : Nat), g := fun (x : Nat) => [] : Sq (List XV) } : Lnk }).l2.gen = fitT1.l2.gen ∧ ((XV.fz (setTb tab0 0 { live := false, gen := (0 : Int), dom := { n := (1 : Nat), g := fun (i : Nat) => ⟨#[99, 111, 114, 112]⟩ : Sq ByteArray }, dft := false, ll := false, srv := { n := (1 : Nat), g := fun (x : Nat) => [X8 0, X8 0, X8 0, X8 0, X8 0, X8 0, X8 0, X8 0, X8 0, X8 0, X8 0, X8 0, X8 0, X8 0, X8 0, X8 0] : Sq (List XV) }, loc := { n := (0 : Nat), g := fun (x : Nat) => [] : Sq (List XV) } : Lnk }).l2.dom.n 1 fun (j : Nat) => [XT ((setTb tab0 0 { live := false, gen := (0 : Int), dom := { n := (1 : Nat), g := fun (i : Nat) => ⟨#[99, 111, 114, 112]⟩ : Sq ByteArray }, dft := false, ll := false, srv := { n := (1 : Nat), g := fun (x : Nat) => [X8 0, X8 0, X8 0, X8 0, X8 0, X8 0, X8 0, X8 0, X8 0, X8 0, X8 0, X8 0, X8 0, X8 0, X8 0, X8 0] : Sq (List XV) }, loc := { n := (0 : Nat), g := fun (x : Nat) => [] : Sq (List XV) } : Lnk }).l2.dom.g j)]) = XV.fz fitT1.l2.dom.n 1 fun (j : Nat) => [XT (fitT1.l2.dom.g j)]) ∧ (setTb tab0 0 { live := false, gen := (0 : Int), dom := { n := (1 : Nat), g := fun (i : Nat) => ⟨#[99, 111, 114, 112]⟩ : Sq ByteArray }, dft := false, ll := false, srv := { n := (1 : Nat), g := fun (x : Nat) => [X8 0, X8 0, X8 0, X8 0, X8 0, X8 0, X8 0, X8 0, X8 0, X8 0, X8 0, X8 0, X8 0, X8 0, X8 0, X8 0] : Sq (List XV) }, loc := { n := (0 : Nat), g := fun (x : Nat) => [] : Sq (List XV) } : Lnk }).l2.dft = fitT1.l2.dft ∧ (setTb tab0 0 { live := false, gen := (0 : Int), dom := { n := (1 : Nat), g := fun (i : Nat) => ⟨#[99, 111, 114, 112]⟩ : Sq ByteArray }, dft := false, ll := false, srv := { n := (1 : Nat), g := fun (x : Nat) => [X8 0, X8 0, X8 0, X8 0, X8 0, X8 0, X8 0, X8 0, X8 0, X8 0, X8 0, X8 0, X8 0, X8 0, X8 0, X8 0] : Sq (List XV) }, loc := { n := (0 : Nat), g := fun (x : Nat) => [] : Sq (List XV) } : Lnk }).l2.ll = fitT1.l2.ll ∧ XV.fz (setTb tab0 0 { live := false, gen := (0 : Int), dom := { n := (1 : Nat), g := fun (i : Nat) => ⟨#[99, 111, 114, 112]⟩ : Sq ByteArray }, dft := false, ll := false, srv := { n := (1 : Nat), g := fun (x : Nat) => [X8 0, X8 0, X8 0, X8 0, X8 0, X8 0, X8 0, X8 0, X8 0, X8 0, X8 0, X8 0, X8 0, X8 0, X8 0, X8 0] : Sq (List XV) }, loc := { n := (0 : Nat), g := fun (x : Nat) => [] : Sq (List XV) } : Lnk }).l2.srv.n 16 (setTb tab0 0 { live := false, gen := (0 : Int), dom := { n := (1 : Nat), g := fun (i : Nat) => ⟨#[99, 111, 114, 112]⟩ : Sq ByteArray }, dft := false, ll := false, srv := { n := (1 : Nat), g := fun (x : Nat) => [X8 0, X8 0, X8 0, X8 0, X8 0, X8 0, X8 0, X8 0, X8 0, X8 0, X8 0, X8 0, X8 0, X8 0, X8 0, X8 0] : Sq (List XV) }, loc := { n := (0 : Nat), g := fun (x : Nat) => [] : Sq (List XV) } : Lnk }).l2.srv.g = XV.fz fitT1.l2.srv.n 16 fitT1.l2.srv.g ∧ XV.fz (setTb tab0 0 { live := false, gen := (0 : Int), dom := { n := (1 : Nat), g := fun (i : Nat) => ⟨#[99, 111, 114, 112]⟩ : Sq ByteArray }, dft := false, ll := false, srv := { n := (1 : Nat), g := fun (x : Nat) => [X8 0, X8 0, X8 0, X8 0, X8 0, X8 0, X8 0, X8 0, X8 0, X8 0, X8 0, X8 0, X8 0, X8 0, X8 0, X8 0] : Sq (List XV) }, loc := { n := (0 : Nat), g := fun (x : Nat) => [] : Sq (List XV) } : Lnk }).l2.loc.n 18 (setTb tab0 0 { live := false, gen := (0 : Int), dom := { n := (1 : Nat), g := fun (i : Nat) => ⟨#[99, 111, 114, 112]⟩ : Sq ByteArray }, dft := false, ll := false, srv := { n := (1 : Nat), g := fun (x : Nat) => [X8 0, X8 0, X8 0, X8 0, X8 0, X8 0, X8 0, X8 0, X8 0, X8 0, X8 0, X8 0, X8 0, X8 0, X8 0, X8 0] : Sq (List XV) }, loc := { n := (0 : Nat), g := fun (x : Nat) => [] : Sq (List XV) } : Lnk }).l2.loc.g = XV.fz fitT1.l2.loc.n 18 fitT1.l2.loc.g ∧ (setTb tab0 0 { live := false, gen := (0 : Int), dom := { n := (1 : Nat), g := fun (i : Nat) => ⟨#[99, 111, 114, 112]⟩ : Sq ByteArray }, dft := false, ll := false, srv := { n := (1 : Nat), g := fun (x : Nat) => [X8 0, X8 0, X8 0, X8 0, X8 0, X8 0, X8 0, X8 0, X8 0, X8 0, X8 0, X8 0, X8 0, X8 0, X8 0, X8 0] : Sq (List XV) }, loc := { n := (0 : Nat), g := fun (x : Nat) => [] : Sq (List XV) } : Lnk }).l3.live = fitT1.l3.live ∧ (setTb tab0 0 { live := false, gen := (0 : Int), dom := { n := (1 : Nat), g := fun (i : Nat) => ⟨#[99, 111, 114, 112]⟩ : Sq ByteArray }, dft := false, ll := false, srv := { n := (1 : Nat), g := fun (x : Nat) => [X8 0, X8 0, X8 0, X8 0, X8 0, X8 0, X8 0, X8 0, X8 0, X8 0, X8 0, X8 0, X8 0, X8 0, X8 0, X8 0] : Sq (List XV) }, loc := { n := (0 : Nat), g := fun (x : Nat) => [] : Sq (List XV) } : Lnk }).l3.gen = fitT1.l3.gen ∧ ((XV.fz (setTb tab0 0 { live := false, gen := (0 : Int), dom := { n := (1 : Nat), g := fun (i : Nat) => ⟨#[99, 111, 114, 112]⟩ : Sq ByteArray }, dft := false, ll := false, srv := { n := (1 : Nat), g := fun (x : Nat) => [X8 0, X8 0, X8 0, X8 0, X8 0, X8 0, X8 0, X8 0, X8 0, X8 0, X8 0, X8 0, X8 0, X8 0, X8 0, X8 0] : Sq (List XV) }, loc := { n := (0 : Nat), g := fun (x : Nat) => [] : Sq (List XV) } : Lnk }).l3.dom.n 1 fun (j : Nat) => [XT ((setTb tab0 0 { live := false, gen := (0 : Int), dom := { n := (1 : Nat), g := fun (i : Nat) => ⟨#[99, 111, 114, 112]⟩ : Sq ByteArray }, dft := false, ll := false, srv := { n := (1 : Nat), g := fun (x : Nat) => [X8 0, X8 0, X8 0, X8 0, X8 0, X8 0, X8 0, X8 0, X8 0, X8 0, X8 0, X8 0, X8 0, X8 0, X8 0, X8 0] : Sq (List XV) }, loc := { n := (0 : Nat), g := fun (x : Nat) => [] : Sq (List XV) } : Lnk }).l3.dom.g j)]) = XV.fz fitT1.l3.dom.n 1 fun (j : Nat) => [XT (fitT1.l3.dom.g j)]) ∧ (setTb tab0 0 { live := false, gen := (0 : Int), dom := { n := (1 : Nat), g := fun (i : Nat) => ⟨#[99, 111, 114, 112]⟩ : Sq ByteArray }, dft := false, ll := false, srv := { n := (1 : Nat), g := fun (x : Nat) => [X8 0, X8 0, X8 0, X8 0, X8 0, X8 0, X8 0, X8 0, X8 0, X8 0, X8 0, X8 0, X8 0, X8 0, X8 0, X8 0] : Sq (List XV) }, loc := { n := (0 : Nat), g := fun (x : Nat) => [] : Sq (List XV) } : Lnk }).l3.dft = fitT1.l3.dft ∧ (setTb tab0 0 { live := false, gen := (0 : Int), dom := { n := (1 : Nat), g := fun (i : Nat) => ⟨#[99, 111, 114, 112]⟩ : Sq ByteArray }, dft := false, ll := false, srv := { n := (1 : Nat), g := fun (x : Nat) => [X8 0, X8 0, X8 0, X8 0, X8 0, X8 0, X8 0, X8 0, X8 0, X8 0, X8 0, X8 0, X8 0, X8 0, X8 0, X8 0] : Sq (List XV) }, loc := { n := (0 : Nat), g := fun (x : Nat) => [] : Sq (List XV) } : Lnk }).l3.ll = fitT1.l3.ll ∧ XV.fz (setTb tab0 0 { live := false, gen := (0 : Int), dom := { n := (1 : Nat), g := fun (i : Nat) => ⟨#[99, 111, 114, 112]⟩ : Sq ByteArray }, dft := false, ll := false, srv := { n := (1 : Nat), g := fun (x : Nat) => [X8 0, X8 0, X8 0, X8 0, X8 0, X8 0, X8 0, X8 0, X8 0, X8 0, X8 0, X8 0, X8 0, X8 0, X8 0, X8 0] : Sq (List XV) }, loc := { n := (0 : Nat), g := fun (x : Nat) => [] : Sq (List XV) } : Lnk }).l3.srv.n 16 (setTb tab0 0 { live := false, gen := (0 : Int), dom := { n := (1 : Nat), g := fun (i : Nat) => ⟨#[99, 111, 114, 112]⟩ : Sq ByteArray }, dft := false, ll := false, srv := { n := (1 : Nat), g := fun (x : Nat) => [X8 0, X8 0, X8 0, X8 0, X8 0, X8 0, X8 0, X8 0, X8 0, X8 0, X8 0, X8 0, X8 0, X8 0, X8 0, X8 0] : Sq (List XV) }, loc := { n := (0 : Nat), g := fun (x : Nat) => [] : Sq (List XV) } : Lnk }).l3.srv.g = XV.fz fitT1.l3.srv.n 16 fitT1.l3.srv.g ∧ XV.fz (setTb tab0 0 { live := false, gen := (0 : Int), dom := { n := (1 : Nat), g := fun (i : Nat) => ⟨#[99, 111, 114, 112]⟩ : Sq ByteArray }, dft := false, ll := false, srv := { n := (1 : Nat), g := fun (x : Nat) => [X8 0, X8 0, X8 0, X8 0, X8 0, X8 0, X8 0, X8 0, X8 0, X8 0, X8 0, X8 0, X8 0, X8 0, X8 0, X8 0] : Sq (List XV) }, loc := { n := (0 : Nat), g := fun (x : Nat) => [] : Sq (List XV) } : Lnk }).l3.loc.n 18 (setTb tab0 0 { live := false, gen := (0 : Int), dom := { n := (1 : Nat), g := fun (i : Nat) => ⟨#[99, 111, 114, 112]⟩ : Sq ByteArray }, dft := false, ll := false, srv := { n := (1 : Nat), g := fun (x : Nat) => [X8 0, X8 0, X8 0, X8 0, X8 0, X8 0, X8 0, X8 0, X8 0, X8 0, X8 0, X8 0, X8 0, X8 0, X8 0, X8 0] : Sq (List XV) }, loc := { n := (0 : Nat), g := fun (x : Nat) => [] : Sq (List XV) } : Lnk }).l3.loc.g = XV.fz fitT1.l3.loc.n 18 fitT1.l3.loc.g ∧ XV.top = XV.top ∧ XV.top = XV.top ∧ XV.top = XV.top ∧ XV.top = XV.top ∧ (setTb tab0 0 { live := false, gen := (0 : Int), dom := { n := (1 : Nat), g := fun (i : Nat) => ⟨#[99, 111, 114, 112]⟩ : Sq ByteArray }, dft := false, ll := false, srv := { n := (1 : Nat), g := fun (x : Nat) => [X8 0, X8 0, X8 0, X8 0, X8 0, X8 0, X8 0, X8 0, X8 0, X8 0, X8 0, X8 0, X8 0, X8 0, X8 0, X8 0] : Sq (List XV) }, loc := { n := (0 : Nat), g := fun (x : Nat) => [] : Sq (List XV) } : Lnk }).g = fitT1.g ∧ True) ∧ True) ∧ ∀ (x : IL), True → ((0 : Int) ≤ (1 : Int) ∧ (1 : Int) ≤ (1 : Int) ∧ (16 : Nat) ≤ (140737488355328 : Nat) ∧ (1 : Int) ≤ (140737488355328 : Int) ∧ (∀ (i : Nat), i < fitT1.l0.dom.n → [XT (fitT1.l0.dom.g i)] = [XT (fitT1.l0.dom.g i)]) ∧ (∀ (i : Nat), i < fitT1.l1.dom.n → [XT (fitT1.l1.dom.g i)] = [XT (fitT1.l1.dom.g i)]) ∧ (∀ (i : Nat), i < fitT1.l2.dom.n → [XT (fitT1.l2.dom.g i)] = [XT (fitT1.l2.dom.g i)]) ∧ (∀ (i : Nat), i < fitT1.l3.dom.n → [XT (fitT1.l3.dom.g i)] = [XT (fitT1.l3.dom.g i)]) ∧ (∀ (i : Nat), i < (1 : Nat) → [XT (⟨#[46]⟩)] = [XT (⟨#[46]⟩)]) ∧ (1 : Nat) ≤ (1000000000 : Nat) ∧ ((-4611686018427387904 : Int) ≤ fitT1.g ∧ fitT1.g ≤ (4611686018427387904 : Int)) ∧ ∃ (x : fiB.σ), True ∧ true = true ∧ XV.ptr 0 0 0 0 = XV.ptr 0 0 0 0 ∧ (0 : Int) = (0 : Int) ∧ setN 1 { live := false, gen := (0 : Int), dom := { n := (1 : Nat), g := fun (i : Nat) => ⟨#[46]⟩ : Sq ByteArray }, dft := false, ll := false, srv := { n := (1 : Nat), g := fun (x : Nat) => [X8 0, X8 0, X8 0, X8 0, X8 0, X8 0, X8 0, X8 0, X8 0, X8 0, X8 0, X8 0, X8 0, X8 0, X8 0, X8 0] : Sq (List XV) }, loc := { n := (0 : Nat), g := fun (x : Nat) => [] : Sq (List XV) } : Lnk } = (0 : Int) ∧ (((70 : TypeId) = (70 : TypeId) ∧ true = true) ∧ (setTb fitT1 1 { live := false, gen := (0 : Int), dom := { n := (1 : Nat), g := fun (i : Nat) => ⟨#[46]⟩ : Sq ByteArray }, dft := false, ll := false, srv := { n := (1 : Nat), g := fun (x : Nat) => [X8 0, X8 0, X8 0, X8 0, X8 0, X8 0, X8 0, X8 0, X8 0, X8 0, X8 0, X8 0, X8 0, X8 0, X8 0, X8 0] : Sq (List XV) }, loc := { n := (0 : Nat), g := fun (x : Nat) => [] : Sq (List XV) } : Lnk }).l0.live = fitT2.l0.live ∧ (setTb fitT1 1 { live := false, gen := (0 : Int), dom := { n := (1 : Nat), g := fun (i : Nat) => ⟨#[46]⟩ : Sq ByteArray }, dft := false, ll := false, srv := { n := (1 : Nat), g := fun (x : Nat) => [X8 0, X8 0, X8 0, X8 0, X8 0, X8 0, X8 0, X8 0, X8 0, X8 0, X8 0, X8 0, X8 0, X8 0, X8 0, X8 0] : Sq (List XV) }, loc := { n := (0 : Nat), g := fun (x : Nat) => [] : Sq (List XV) } : Lnk }).l0.gen = fitT2.l0.gen ∧ ((XV.fz (setTb fitT1 1 { live := false, gen := (0 : Int), dom := { n := (1 : Nat), g := fun (i : Nat) => ⟨#[46]⟩ : Sq ByteArray }, dft := false, ll := false, srv := { n := (1 : Nat), g := fun (x : Nat) => [X8 0, X8 0, X8 0, X8 0, X8 0, X8 0, X8 0, X8 0, X8 0, X8 0, X8 0, X8 0, X8 0, X8 0, X8 0, X8 0] : Sq (List XV) }, loc := { n := (0 : Nat), g := fun (x : Nat) => [] : Sq (List XV) } : Lnk }).l0.dom.n 1 fun (j : Nat) => [XT ((setTb fitT1 1 { live := false, gen := (0 : Int), dom := { n := (1 : Nat), g := fun (i : Nat) => ⟨#[46]⟩ : Sq ByteArray }, dft := false, ll := false, srv := { n := (1 : Nat), g := fun (x : Nat) => [X8 0, X8 0, X8 0, X8 0, X8 0, X8 0, X8 0, X8 0, X8 0, X8 0, X8 0, X8 0, X8 0, X8 0, X8 0, X8 0] : Sq (List XV) }, loc := { n := (0 : Nat), g := fun (x : Nat) => [] : Sq (List XV) } : Lnk }).l0.dom.g j)]) = XV.fz fitT2.l0.dom.n 1 fun (j : Nat) => [XT (fitT2.l0.dom.g j)]) ∧ (setTb fitT1 1 { live := false, gen := (0 : Int), dom := { n := (1 : Nat), g := fun (i : Nat) => ⟨#[46]⟩ : Sq ByteArray }, dft := false, ll := false, srv := { n := (1 : Nat), g := fun (x : Nat) => [X8 0, X8 0, X8 0, X8 0, X8 0, X8 0, X8 0, X8 0, X8 0, X8 0, X8 0, X8 0, X8 0, X8 0, X8 0, X8 0] : Sq (List XV) }, loc := { n := (0 : Nat), g := fun (x : Nat) => [] : Sq (List XV) } : Lnk }).l0.dft = fitT2.l0.dft ∧ (setTb fitT1 1 { live := false, gen := (0 : Int), dom := { n := (1 : Nat), g := fun (i : Nat) => ⟨#[46]⟩ : Sq ByteArray }, dft := false, ll := false, srv := { n := (1 : Nat), g := fun (x : Nat) => [X8 0, X8 0, X8 0, X8 0, X8 0, X8 0, X8 0, X8 0, X8 0, X8 0, X8 0, X8 0, X8 0, X8 0, X8 0, X8 0] : Sq (List XV) }, loc := { n := (0 : Nat), g := fun (x : Nat) => [] : Sq (List XV) } : Lnk }).l0.ll = fitT2.l0.ll ∧ XV.fz (setTb fitT1 1 { live := false, gen := (0 : Int), dom := { n := (1 : Nat), g := fun (i : Nat) => ⟨#[46]⟩ : Sq ByteArray }, dft := false, ll := false, srv := { n := (1 : Nat), g := fun (x : Nat) => [X8 0, X8 0, X8 0, X8 0, X8 0, X8 0, X8 0, X8 0, X8 0, X8 0, X8 0, X8 0, X8 0, X8 0, X8 0, X8 0] : Sq (List XV) }, loc := { n := (0 : Nat), g := fun (x : Nat) => [] : Sq (List XV) } : Lnk }).l0.srv.n 16 (setTb fitT1 1 { live := false, gen := (0 : Int), dom := { n := (1 : Nat), g := fun (i : Nat) => ⟨#[46]⟩ : Sq ByteArray }, dft := false, ll := false, srv := { n := (1 : Nat), g := fun (x : Nat) => [X8 0, X8 0, X8 0, X8 0, X8 0, X8 0, X8 0, X8 0, X8 0, X8 0, X8 0, X8 0, X8 0, X8 0, X8 0, X8 0] : Sq (List XV) }, loc := { n := (0 : Nat), g := fun (x : Nat) => [] : Sq (List XV) } : Lnk }).l0.srv.g = XV.fz fitT2.l0.srv.n 16 fitT2.l0.srv.g ∧ XV.fz (setTb fitT1 1 { live := false, gen := (0 : Int), dom := { n := (1 : Nat), g := fun (i : Nat) => ⟨#[46]⟩ : Sq ByteArray }, dft := false, ll := false, srv := { n := (1 : Nat), g := fun (x : Nat) => [X8 0, X8 0, X8 0, X8 0, X8 0, X8 0, X8 0, X8 0, X8 0, X8 0, X8 0, X8 0, X8 0, X8 0, X8 0, X8 0] : Sq (List XV) }, loc := { n := (0 : Nat), g := fun (x : Nat) => [] : Sq (List XV) } : Lnk }).l0.loc.n 18 (setTb fitT1 1 { live := false, gen := (0 : Int), dom := { n := (1 : Nat), g := fun (i : Nat) => ⟨#[46]⟩ : Sq ByteArray }, dft := false, ll := false, srv := { n := (1 : Nat), g := fun (x : Nat) => [X8 0, X8 0, X8 0, X8 0, X8 0, X8 0, X8 0, X8 0, X8 0, X8 0, X8 0, X8 0, X8 0, X8 0, X8 0, X8 0] : Sq (List XV) }, loc := { n := (0 : Nat), g := fun (x : Nat) => [] : Sq (List XV) } : Lnk }).l0.loc.g = XV.fz fitT2.l0.loc.n 18 fitT2.l0.loc.g ∧ (setTb fitT1 1 { live := false, gen := (0 : Int), dom := { n := (1 : Nat), g := fun (i : Nat) => ⟨#[46]⟩ : Sq ByteArray }, dft := false, ll := false, srv := { n := (1 : Nat), g := fun (x : Nat) => [X8 0, X8 0, X8 0, X8 0, X8 0, X8 0, X8 0, X8 0, X8 0, X8 0, X8 0, X8 0, X8 0, X8 0, X8 0, X8 0] : Sq (List XV) }, loc := { n := (0 : Nat), g := fun (x : Nat) => [] : Sq (List XV) } : Lnk }).l1.live = fitT2.l1.live ∧ (setTb fitT1 1 { live := false, gen := (0 : Int), dom := { n := (1 : Nat), g := fun (i : Nat) => ⟨#[46]⟩ : Sq ByteArray }, dft := false, ll := false, srv := { n := (1 : Nat), g := fun (x : Nat) => [X8 0, X8 0, X8 0, X8 0, X8 0, X8 0, X8 0, X8 0, X8 0, X8 0, X8 0, X8 0, X8 0, X8 0, X8 0, X8 0] : Sq (List XV) }, loc := { n := (0 : Nat), g := fun (x : Nat) => [] : Sq (List XV) } : Lnk }).l1.gen = fitT2.l1.gen ∧ ((XV.fz (setTb fitT1 1 { live := false, gen := (0 : Int), dom := { n := (1 : Nat), g := fun (i : Nat) => ⟨#[46]⟩ : Sq ByteArray }, dft := false, ll := false, srv := { n := (1 : Nat), g := fun (x : Nat) => [X8 0, X8 0, X8 0, X8 0, X8 0, X8 0, X8 0, X8 0, X8 0, X8 0, X8 0, X8 0, X8 0, X8 0, X8 0, X8 0] : Sq (List XV) }, loc := { n := (0 : Nat), g := fun (x : Nat) => [] : Sq (List XV) } : Lnk }).l1.dom.n 1 fun (j : Nat) => [XT ((setTb fitT1 1 { live := false, gen := (0 : Int), dom := { n := (1 : Nat), g := fun (i : Nat) => ⟨#[46]⟩ : Sq ByteArray }, dft := false, ll := false, srv := { n := (1 : Nat), g := fun (x : Nat) => [X8 0, X8 0, X8 0, X8 0, X8 0, X8 0, X8 0, X8 0, X8 0, X8 0, X8 0, X8 0, X8 0, X8 0, X8 0, X8 0] : Sq (List XV) }, loc := { n := (0 : Nat), g := fun (x : Nat) => [] : Sq (List XV) } : Lnk }).l1.dom.g j)]) = XV.fz fitT2.l1.dom.n 1 fun (j : Nat) => [XT (fitT2.l1.dom.g j)]) ∧ (setTb fitT1 1 { live := false, gen := (0 : Int), dom := { n := (1 : Nat), g := fun (i : Nat) => ⟨#[46]⟩ : Sq ByteArray }, dft := false, ll := false, srv := { n := (1 : Nat), g := fun (x : Nat) => [X8 0, X8 0, X8 0, X8 0, X8 0, X8 0, X8 0, X8 0, X8 0, X8 0, X8 0, X8 0, X8 0, X8 0, X8 0, X8 0] : Sq (List XV) }, loc := { n := (0 : Nat), g := fun (x : Nat) => [] : Sq (List XV) } : Lnk }).l1.dft = fitT2.l1.dft ∧ (setTb fitT1 1 { live := false, gen := (0 : Int), dom := { n := (1 : Nat), g := fun (i : Nat) => ⟨#[46]⟩ : Sq ByteArray }, dft := false, ll := false, srv := { n := (1 : Nat), g := fun (x : Nat) => [X8 0, X8 0, X8 0, X8 0, X8 0, X8 0, X8 0, X8 0, X8 0, X8 0, X8 0, X8 0, X8 0, X8 0, X8 0, X8 0] : Sq (List XV) }, loc := { n := (0 : Nat), g := fun (x : Nat) => [] : Sq (List XV) } : Lnk }).l1.ll = fitT2.l1.ll ∧ XV.fz (setTb fitT1 1 { live := false, gen := (0 : Int), dom := { n := (1 : Nat), g := fun (i : Nat) => ⟨#[46]⟩ : Sq ByteArray }, dft := false, ll := false, srv := { n := (1 : Nat), g := fun (x : Nat) => [X8 0, X8 0, X8 0, X8 0, X8 0, X8 0, X8 0, X8 0, X8 0, X8 0, X8 0, X8 0, X8 0, X8 0, X8 0, X8 0] : Sq (List XV) }, loc := { n := (0 : Nat), g := fun (x : Nat) => [] : Sq (List XV) } : Lnk }).l1.srv.n 16 (setTb fitT1 1 { live := false, gen := (0 : Int), dom := { n := (1 : Nat), g := fun (i : Nat) => ⟨#[46]⟩ : Sq ByteArray }, dft := false, ll := false, srv := { n := (1 : Nat), g := fun (x : Nat) => [X8 0, X8 0, X8 0, X8 0, X8 0, X8 0, X8 0, X8 0, X8 0, X8 0, X8 0, X8 0, X8 0, X8 0, X8 0, X8 0] : Sq (List XV) }, loc := { n := (0 : Nat), g := fun (x : Nat) => [] : Sq (List XV) } : Lnk }).l1.srv.g = XV.fz fitT2.l1.srv.n 16 fitT2.l1.srv.g ∧ XV.fz (setTb fitT1 1 { live := false, gen := (0 : Int), dom := { n := (1 : Nat), g := fun (i : Nat) => ⟨#[46]⟩ : Sq ByteArray }, dft := false, ll := false, srv := { n := (1 : Nat), g := fun (x : Nat) => [X8 0, X8 0, X8 0, X8 0, X8 0, X8 0, X8 0, X8 0, X8 0, X8 0, X8 0, X8 0, X8 0, X8 0, X8 0, X8 0] : Sq (List XV) }, loc := { n := (0 : Nat), g := fun (x : Nat) => [] : Sq (List XV) } : Lnk }).l1.loc.n 18 (setTb fitT1 1 { live := false, gen := (0 : Int), dom := { n := (1 : Nat), g := fun (i : Nat) => ⟨#[46]⟩ : Sq ByteArray }, dft := false, ll := false, srv := { n := (1 : Nat), g := fun (x : Nat) => [X8 0, X8 0, X8 0, X8 0, X8 0, X8 0, X8 0, X8 0, X8 0, X8 0, X8 0, X8 0, X8 0, X8 0, X8 0, X8 0] : Sq (List XV) }, loc := { n := (0 : Nat), g := fun (x : Nat) => [] : Sq (List XV) } : Lnk }).l1.loc.g = XV.fz fitT2.l1.loc.n 18 fitT2.l1.loc.g ∧ (setTb fitT1 1 { live := false, gen := (0 : Int), dom := { n := (1 : Nat), g := fun (i : Nat) => ⟨#[46]⟩ : Sq ByteArray }, dft := false, ll := false, srv := { n := (1 : Nat), g := fun (x : Nat) => [X8 0, X8 0, X8 0, X8 0, X8 0, X8 0, X8 0, X8 0, X8 0, X8 0, X8 0, X8 0, X8 0, X8 0, X8 0, X8 0] : Sq (List XV) }, loc := { n := (0 : Nat), g := fun (x : Nat) => [] : Sq (List XV) } : Lnk }).l2.live = fitT2.l2.live ∧ (setTb fitT1 1 { live := false, gen := (0 : Int), dom := { n := (1 : Nat), g := fun (i : Nat) => ⟨#[46]⟩ : Sq ByteArray }, dft := false, ll := false, srv := { n := (1 : Nat), g := fun (x : Nat) => [X8 0, X8 0, X8 0, X8 0, X8 0, X8 0, X8 0, X8 0, X8 0, X8 0, X8 0, X8 0, X8 0, X8 0, X8 0, X8 0] : Sq (List XV) }, loc := { n := (0 : Nat), g := fun (x : Nat) => [] : Sq (List XV) } : Lnk }).l2.gen = fitT2.l2.gen ∧ ((XV.fz (setTb fitT1 1 { live := false, gen := (0 : Int), dom := { n := (1 : Nat), g := fun (i : Nat) => ⟨#[46]⟩ : Sq ByteArray }, dft := false, ll := false, srv := { n := (1 : Nat), g := fun (x : Nat) => [X8 0, X8 0, X8 0, X8 0, X8 0, X8 0, X8 0, X8 0, X8 0, X8 0, X8 0, X8 0, X8 0, X8 0, X8 0, X8 0] : Sq (List XV) }, loc := { n := (0 : Nat), g := fun (x : Nat) => [] : Sq (List XV) } : Lnk }).l2.dom.n 1 fun (j : Nat) => [XT ((setTb fitT1 1 { live := false, gen := (0 : Int), dom := { n := (1 : Nat), g := fun (i : Nat) => ⟨#[46]⟩ : Sq ByteArray }, dft := false, ll := false, srv := { n := (1 : Nat), g := fun (x : Nat) => [X8 0, X8 0, X8 0, X8 0, X8 0, X8 0, X8 0, X8 0, X8 0, X8 0, X8 0, X8 0, X8 0, X8 0, X8 0, X8 0] : Sq (List XV) }, loc := { n := (0 : Nat), g := fun (x : Nat) => [] : Sq (List XV) } : Lnk }).l2.dom.g j)]) = XV.fz fitT2.l2.dom.n 1 fun (j : Nat) => [XT (fitT2.l2.dom.g j)]) ∧ (setTb fitT1 1 { live := false, gen := (0 : Int), dom := { n := (1 : Nat), g := fun (i : Nat) => ⟨#[46]⟩ : Sq ByteArray }, dft := false, ll := false, srv := { n := (1 : Nat), g := fun (x : Nat) => [X8 0, X8 0, X8 0, X8 0, X8 0, X8 0, X8 0, X8 0, X8 0, X8 0, X8 0, X8 0, X8 0, X8 0, X8 0, X8 0] : Sq (List XV) }, loc := { n := (0 : Nat), g := fun (x : Nat) => [] : Sq (List XV) } : Lnk }).l2.dft = fitT2.l2.dft ∧ (setTb fitT1 1 { live := false, gen := (0 : Int), dom := { n := (1 : Nat), g := fun (i : Nat) => ⟨#[46]⟩ : Sq ByteArray }, dft := false, ll := false, srv := { n := (1 : Nat), g := fun (x : Nat) => [X8 0, X8 0, X8 0, X8 0, X8 0, X8 0, X8 0, X8 0, X8 0, X8 0, X8 0, X8 0, X8 0, X8 0, X8 0, X8 0] : Sq (List XV) }, loc := { n := (0 : Nat), g := fun (x : Nat) => [] : Sq (List XV) } : Lnk }).l2.ll = fitT2.l2.ll ∧ XV.fz (setTb fitT1 1 { live := false, gen := (0 : Int), dom := { n := (1 : Nat), g := fun (i : Nat) => ⟨#[46]⟩ : Sq ByteArray }, dft := false, ll := false, srv := { n := (1 : Nat), g := fun (x : Nat) => [X8 0, X8 0, X8 0, X8 0, X8 0, X8 0, X8 0, X8 0, X8 0, X8 0, X8 0, X8 0, X8 0, X8 0, X8 0, X8 0] : Sq (List XV) }, loc := { n := (0 : Nat), g := fun (x : Nat) => [] : Sq (List XV) } : Lnk }).l2.srv.n 16 (setTb fitT1 1 { live := false, gen := (0 : Int), dom := { n := (1 : Nat), g := fun (i : Nat) => ⟨#[46]⟩ : Sq ByteArray }, dft := false, ll := false, srv := { n := (1 : Nat), g := fun (x : Nat) => [X8 0, X8 0, X8 0, X8 0, X8 0, X8 0, X8 0, X8 0, X8 0, X8 0, X8 0, X8 0, X8 0, X8 0, X8 0, X8 0] : Sq (List XV) }, loc := { n := (0 : Nat), g := fun (x : Nat) => [] : Sq (List XV) } : Lnk }).l2.srv.g = XV.fz fitT2.l2.srv.n 16 fitT2.l2.srv.g ∧ XV.fz (setTb fitT1 1 { live := false, gen := (0 : Int), dom := { n := (1 : Nat), g := fun (i : Nat) => ⟨#[46]⟩ : Sq ByteArray }, dft := false, ll := false, srv := { n := (1 : Nat), g := fun (x : Nat) => [X8 0, X8 0, X8 0, X8 0, X8 0, X8 0, X8 0, X8 0, X8 0, X8 0, X8 0, X8 0, X8 0, X8 0, X8 0, X8 0] : Sq (List XV) }, loc := { n := (0 : Nat), g := fun (x : Nat) => [] : Sq (List XV) } : Lnk }).l2.loc.n 18 (setTb fitT1 1 { live := false, gen := (0 : Int), dom := { n := (1 : Nat), g := fun (i : Nat) => ⟨#[46]⟩ : Sq ByteArray }, dft := false, ll := false, srv := { n := (1 : Nat), g := fun (x : Nat) => [X8 0, X8 0, X8 0, X8 0, X8 0, X8 0, X8 0, X8 0, X8 0, X8 0, X8 0, X8 0, X8 0, X8 0, X8 0, X8 0] : Sq (List XV) }, loc := { n := (0 : Nat), g := fun (x : Nat) => [] : Sq (List XV) } : Lnk }).l2.loc.g = XV.fz fitT2.l2.loc.n 18 fitT2.l2.loc.g ∧ (setTb fitT1 1 { live := false, gen := (0 : Int), dom := { n := (1 : Nat), g := fun (i : Nat) => ⟨#[46]⟩ : Sq ByteArray }, dft := false, ll := false, srv := { n := (1 : Nat), g := fun (x : Nat) => [X8 0, X8 0, X8 0, X8 0, X8 0, X8 0, X8 0, X8 0, X8 0, X8 0, X8 0, X8 0, X8 0, X8 0, X8 0, X8 0] : Sq (List XV) }, loc := { n := (0 : Nat), g := fun (x : Nat) => [] : Sq (List XV) } : Lnk }).l3.live = fitT2.l3.live ∧ (setTb fitT1 1 { live := false, gen := (0 : Int), dom := { n := (1 : Nat), g := fun (i : Nat) => ⟨#[46]⟩ : Sq ByteArray }, dft := false, ll := false, srv := { n := (1 : Nat), g := fun (x : Nat) => [X8 0, X8 0, X8 0, X8 0, X8 0, X8 0, X8 0, X8 0, X8 0, X8 0, X8 0, X8 0, X8 0, X8 0, X8 0, X8 0] : Sq (List XV) }, loc := { n := (0 : Nat), g := fun (x : Nat) => [] : Sq (List XV) } : Lnk }).l3.gen = fitT2.l3.gen ∧ ((XV.fz (setTb fitT1 1 { live := false, gen := (0 : Int), dom := { n := (1 : Nat), g := fun (i : Nat) => ⟨#[46]⟩ : Sq ByteArray }, dft := false, ll := false, srv := { n := (1 : Nat), g := fun (x : Nat) => [X8 0, X8 0, X8 0, X8 0, X8 0, X8 0, X8 0, X8 0, X8 0, X8 0, X8 0, X8 0, X8 0, X8 0, X8 0, X8 0] : Sq (List XV) }, loc := { n := (0 : Nat), g := fun (x : Nat) => [] : Sq (List XV) } : Lnk }).l3.dom.n 1 fun (j : Nat) => [XT ((setTb fitT1 1 { live := false, gen := (0 : Int), dom := { n := (1 : Nat), g := fun (i : Nat) => ⟨#[46]⟩ : Sq ByteArray }, dft := false, ll := false, srv := { n := (1 : Nat), g := fun (x : Nat) => [X8 0, X8 0, X8 0, X8 0, X8 0, X8 0, X8 0, X8 0, X8 0, X8 0, X8 0, X8 0, X8 0, X8 0, X8 0, X8 0] : Sq (List XV) }, loc := { n := (0 : Nat), g := fun (x : Nat) => [] : Sq (List XV) } : Lnk }).l3.dom.g j)]) = XV.fz fitT2.l3.dom.n 1 fun (j : Nat) => [XT (fitT2.l3.dom.g j)]) ∧ (setTb fitT1 1 { live := false, gen := (0 : Int), dom := { n := (1 : Nat), g := fun (i : Nat) => ⟨#[46]⟩ : Sq ByteArray }, dft := false, ll := false, srv := { n := (1 : Nat), g := fun (x : Nat) => [X8 0, X8 0, X8 0, X8 0, X8 0, X8 0, X8 0, X8 0, X8 0, X8 0, X8 0, X8 0, X8 0, X8 0, X8 0, X8 0] : Sq (List XV) }, loc := { n := (0 : Nat), g := fun (x : Nat) => [] : Sq (List XV) } : Lnk }).l3.dft = fitT2.l3.dft ∧ (setTb fitT1 1 { live := false, gen := (0 : Int), dom := { n := (1 : Nat), g := fun (i : Nat) => ⟨#[46]⟩ : Sq ByteArray }, dft := false, ll := false, srv := { n := (1 : Nat), g := fun (x : Nat) => [X8 0, X8 0, X8 0, X8 0, X8 0, X8 0, X8 0, X8 0, X8 0, X8 0, X8 0, X8 0, X8 0, X8 0, X8 0, X8 0] : Sq (List XV) }, loc := { n := (0 : Nat), g := fun (x : Nat) => [] : Sq (List XV) } : Lnk }).l3.ll = fitT2.l3.ll ∧ XV.fz (setTb fitT1 1 { live := false, gen := (0 : Int), dom := { n := (1 : Nat), g := fun (i : Nat) => ⟨#[46]⟩ : Sq ByteArray }, dft := false, ll := false, srv := { n := (1 : Nat), g := fun (x : Nat) => [X8 0, X8 0, X8 0, X8 0, X8 0, X8 0, X8 0, X8 0, X8 0, X8 0, X8 0, X8 0, X8 0, X8 0, X8 0, X8 0] : Sq (List XV) }, loc := { n := (0 : Nat), g := fun (x : Nat) => [] : Sq (List XV) } : Lnk }).l3.srv.n 16 (setTb fitT1 1 { live := false, gen := (0 : Int), dom := { n := (1 : Nat), g := fun (i : Nat) => ⟨#[46]⟩ : Sq ByteArray }, dft := false, ll := false, srv := { n := (1 : Nat), g := fun (x : Nat) => [X8 0, X8 0, X8 0, X8 0, X8 0, X8 0, X8 0, X8 0, X8 0, X8 0, X8 0, X8 0, X8 0, X8 0, X8 0, X8 0] : Sq (List XV) }, loc := { n := (0 : Nat), g := fun (x : Nat) => [] : Sq (List XV) } : Lnk }).l3.srv.g = XV.fz fitT2.l3.srv.n 16 fitT2.l3.srv.g ∧ XV.fz (setTb fitT1 1 { live := false, gen := (0 : Int), dom := { n := (1 : Nat), g := fun (i : Nat) => ⟨#[46]⟩ : Sq ByteArray }, dft := false, ll := false, srv := { n := (1 : Nat), g := fun (x : Nat) => [X8 0, X8 0, X8 0, X8 0, X8 0, X8 0, X8 0, X8 0, X8 0, X8 0, X8 0, X8 0, X8 0, X8 0, X8 0, X8 0] : Sq (List XV) }, loc := { n := (0 : Nat), g := fun (x : Nat) => [] : Sq (List XV) } : Lnk }).l3.loc.n 18 (setTb fitT1 1 { live := false, gen := (0 : Int), dom := { n := (1 : Nat), g := fun (i : Nat) => ⟨#[46]⟩ : Sq ByteArray }, dft := false, ll := false, srv := { n := (1 : Nat), g := fun (x : Nat) => [X8 0, X8 0, X8 0, X8 0, X8 0, X8 0, X8 0, X8 0, X8 0, X8 0, X8 0, X8 0, X8 0, X8 0, X8 0, X8 0] : Sq (List XV) }, loc := { n := (0 : Nat), g := fun (x : Nat) => [] : Sq (List XV) } : Lnk }).l3.loc.g = XV.fz fitT2.l3.loc.n 18 fitT2.l3.loc.g ∧ XV.top = XV.top ∧ XV.top = XV.top ∧ XV.top = XV.top ∧ XV.top = XV.top ∧ (setTb fitT1 1 { live := false, gen := (0 : Int), dom := { n := (1 : Nat), g := fun (i : Nat) => ⟨#[46]⟩ : Sq ByteArray }, dft := false, ll := false, srv := { n := (1 : Nat), g := fun (x : Nat) => [X8 0, X8 0, X8 0, X8 0, X8 0, X8 0, X8 0, X8 0, X8 0, X8 0, X8 0, X8 0, X8 0, X8 0, X8 0, X8 0] : Sq (List XV) }, loc := { n := (0 : Nat), g := fun (x : Nat) => [] : Sq (List XV) } : Lnk }).g = fitT2.g ∧ True) ∧ True) ∧ ∀ (x : IL), True → (∀ (i : Nat), i < fitT2.l0.dom.n → [XT (fitT2.l0.dom.g i)] = [XT (fitT2.l0.dom.g i)]) ∧ (∀ (i : Nat), i < fitT2.l1.dom.n → [XT (fitT2.l1.dom.g i)] = [XT (fitT2.l1.dom.g i)]) ∧ (∀ (i : Nat), i < fitT2.l2.dom.n → [XT (fitT2.l2.dom.g i)] = [XT (fitT2.l2.dom.g i)]) ∧ (∀ (i : Nat), i < fitT2.l3.dom.n → [XT (fitT2.l3.dom.g i)] = [XT (fitT2.l3.dom.g i)]) ∧ (6 : Nat) ≤ (1000000 : Nat) ∧ okT fitT2 ∧ (((0 : Int) == (0 : Int) && (0 : Int) == (0 : Int) && fitV_a == (1 : Int)) = true → (0 : Int) ≤ (0 : Int)) ∧ (((0 : Int) == (0 : Int) && (0 : Int) == (0 : Int) && fitV_a == (1 : Int)) = true → (0 : Int) < fitV_a) ∧ (((0 : Int) == (0 : Int) && (0 : Int) == (0 : Int) && fitV_a == (1 : Int) && getI (rtL fitT2 ⟨#[97, 46, 99, 111, 114, 112]⟩ (bstT fitT2 ⟨#[97, 46, 99, 111, 114, 112]⟩ 4) 4) ((0 : Nat)) == (0 : Int) && (0 : Int) == (0 : Int)) = true → (1 : Nat) ≤ (1000000 : Nat)) ∧ ((0 : Int) == (0 : Int) && (0 : Int) == (0 : Int) && fitV_a == (1 : Int) && getI (rtL fitT2 ⟨#[97, 46, 99, 111, 114, 112]⟩ (bstT fitT2 ⟨#[97, 46, 99, 111, 114, 112]⟩ 4) 4) ((0 : Nat)) == (0 : Int) && (0 : Int) == (0 : Int) && cntL ⟨#[46]⟩ == (0 : Int) && cntB ⟨#[97]⟩ ⟨#[46]⟩ == (0 : Int)) = true
theorem fitV_eq  : fitV  = (funC cxD Tryd.f9 (mkSc fiE (bodyOf Tryd.f9)) [] (XB true)) := by kernel_rfl
theorem cln_v (i : Int) : clnV i := by
 unfold clnV
 exact ⟨fun _ => rfl, fun _ => rfl⟩
theorem cln_ok : CTok Tryd.prog 25 clnC := ⟨⟨_, _, Tryd.func25, rfl, by decide⟩, fun args cs v hC hc ρ bs hargs => by
 unfold clnC at hC
 split at hC
 ·split at hC
  ·rename_i a b _ _ i h1 h2
   simp only [Option.some.injEq, Prod.mk.injEq] at hC
   obtain ⟨-, rfl⟩ := hC
   rw [intO_eq h1, nilO_eq h2] at hargs
   cases bs with
   | nil => simp [RVL] at hargs
   | cons b l =>
    cases l with
    | cons _ _ => simp [RVL] at hargs
    | nil =>
     simp only [RVL] at hargs
     exact ⟨toAV (XI 0), by simp [RV, toAV], fp_JF cx0_ok Tryd.func25 rfl rfl (by kernel_rfl) (via (clnV_eq i) (cln_v i)) ρ b hargs.1⟩
  ·cases hC
 ·cases hC⟩
end Go.Proofs.YtaglpckihegmoaaDoorAv
namespace Go.Proofs.YtaglpckihegmoaaDoorAv
open Go Go.RowKit
def okL (k : Lnk) : Prop := k.dom.n ≤ 1000000000 ∧ ∀ j, j < k.dom.n → (k.dom.g j).size ≤ 1000000
theorem okT_mk {T : LTab} (h0 : okL T.l0) (h1 : okL T.l1) (h2 : okL T.l2) (h3 : okL T.l3) : okT T := fun k hk => by
 match k, hk with
 | 0, _ => exact h0
 | 1, _ => exact h1
 | 2, _ => exact h2
 | 3, _ => exact h3
 | n + 4, h => omega
theorem okT_put {T : LTab} {i : Int} {k : Lnk} {g : Int} (h : okT T) (hk : okL k) : okT (putT T i k g) := by
 have h0 : okL T.l0 := h 0 (by decide)
 have h1 : okL T.l1 := h 1 (by decide)
 have h2 : okL T.l2 := h 2 (by decide)
 have h3 : okL T.l3 := h 3 (by decide)
 unfold putT
 split
 ·exact okT_mk hk h1 h2 h3
 ·split
  ·exact okT_mk h0 hk h2 h3
  ·split
   ·exact okT_mk h0 h1 hk h3
   ·exact okT_mk h0 h1 h2 hk
theorem okT_set {T : LTab} {i : Int} {k : Lnk} (h : okT T) (hk : okL k) : okT (setTb T i k) := by
 unfold setTb
 split
 ·split
  ·exact okT_put h hk
  ·exact h
 ·exact h
theorem okT0 : okT tab0 := okT_mk ⟨Nat.zero_le _, fun j h => absurd h (Nat.not_lt_zero _)⟩ ⟨Nat.zero_le _, fun j h => absurd h (Nat.not_lt_zero _)⟩ ⟨Nat.zero_le _, fun j h => absurd h (Nat.not_lt_zero _)⟩ ⟨Nat.zero_le _, fun j h => absurd h (Nat.not_lt_zero _)⟩
theorem putT_g (T : LTab) (i : Int) (k : Lnk) (g : Int) : (putT T i k g).g = g := by
 unfold putT
 split
 ·rfl
 ·split
  ·rfl
  ·split <;> rfl
theorem setTb_g (T : LTab) (i : Int) (k : Lnk) : T.g ≤ (setTb T i k).g ∧ (setTb T i k).g ≤ T.g + 1 := by
 unfold setTb
 split
 ·split
  ·rw [putT_g]; omega
  ·omega
 ·omega
theorem nw_v : nwV := by
 unfold nwV
 and_intros <;> first | rfl | trivial
theorem nw_n : NTok Tryd.prog 12 70 newM0 := nt_ok2 cx0_ok Tryd.func12 rfl (by decide) fun args cs v hC hc => by
 unfold newM0 at hC
 split at hC
 ·simp only [Option.some.injEq, Prod.mk.injEq] at hC
  obtain ⟨rfl, rfl⟩ := hC
  exact ⟨[], by kernel_rfl, rfl, rfl, fun _ _ _ h => h, rfl, exvN nwV_eq nw_v⟩
 ·cases hC
theorem fz0_of {L : GH} {w : World} {sz : Nat} {f : Nat → List XV} {z : Value} (h : VS L w (toAV Xnil) z) : VS L w (toAV (.fz 0 sz f)) z := by
 simp only [toAV, VS] at h
 rw [h]
 exact VS_fz0 _ _
def tellB : List XV → List XV → Prop
 | [], [] => True
 | x :: l, y :: k => (y = x ∨ y = .top ∨ (x = Xnil ∧ ∃ sz f, y = .fz 0 sz f)) ∧ tellB l k
 | _, _ => False
theorem tellB_ok {L : GH} {w : World} : ∀ (xs ys : List XV) (zs : List Value), tellB xs ys → VSL L w (toAVL xs) zs → VSL L w (toAVL ys) zs
 | [], [], _, _, h => h
 | [], _ :: _, _, h, _ => h.elim
 | _ :: _, [], _, h, _ => h.elim
 | x :: l, y :: k, zs, h, hz => by
  cases zs with
  | nil => simp [toAVL, VSL] at hz
  | cons z zs =>
   simp only [toAVL, VSL] at hz ⊢
   refine ⟨?_, tellB_ok l k zs h.2 hz.2⟩
   rcases h.1 with rfl | rfl | ⟨rfl, sz, f, rfl⟩
   ·exact hz.1
   ·simp [toAV, VS]
   ·exact fz0_of hz.1
theorem nw_ok : ITok Tryd.prog 12 (itNew 70 newM) := it_of_nt nw_n fun args cs cells' hM => by
 unfold newM at hM
 split at hM
 ·simp only [Option.some.injEq, Prod.mk.injEq] at hM
  obtain ⟨rfl, rfl⟩ := hM
  refine ⟨_, rfl, rfl, rfl, fun L w zs hz => ?_⟩
  refine tellB_ok _ _ _ ?_ hz
  iterate 33 refine ⟨by first | exact .inl rfl | exact .inr (.inl rfl) | exact .inr (.inr ⟨rfl, _, _, rfl⟩), ?_⟩
  trivial
 ·cases hM
end Go.Proofs.YtaglpckihegmoaaDoorAv
namespace Go.Proofs.YtaglpckihegmoaaDoorAv
open Go Go.RowKit
theorem okT_fit1 : okT fitT1 := okT_set okT0 ⟨by decide, fun j _ => by show (⟨#[99, 111, 114, 112]⟩ : ByteArray).size ≤ _; decide⟩
theorem okT_fit2 : okT fitT2 := okT_set okT_fit1 ⟨by decide, fun j _ => by show (⟨#[46]⟩ : ByteArray).size ≤ _; decide⟩
theorem fit_n0 : setN 0 (fitK ⟨#[99, 111, 114, 112]⟩) = 0 := by kernel_rfl
theorem fit_n1 : setN 1 (fitK ⟨#[46]⟩) = 0 := by kernel_rfl
theorem fit_g : -4611686018427387904 ≤ fitT1.g ∧ fitT1.g ≤ 4611686018427387904 := by
 have h := setTb_g tab0 0 (fitK ⟨#[99, 111, 114, 112]⟩)
 have h0 : tab0.g = 0 := rfl
 have h1 : fitT1.g = (setTb tab0 0 (fitK ⟨#[99, 111, 114, 112]⟩)).g := rfl
 omega
theorem fit_v : fitV := by
 unfold fitV fitV_a
 refine ⟨⟨⟨0⟩, trivial, by and_intros <;> first | rfl | trivial⟩, fun _ _ => ⟨⟨by decide, by decide, by decide, by decide, fun _ _ => rfl, fun _ _ => rfl, fun _ _ => rfl, fun _ _ => rfl, fun _ _ => rfl, by decide, ⟨by decide, by decide⟩, ⟨0⟩, trivial, ?_⟩, fun _ _ => ⟨⟨by decide, by decide, by decide, by decide, fun _ _ => rfl, fun _ _ => rfl, fun _ _ => rfl, fun _ _ => rfl, fun _ _ => rfl, by decide, fit_g, ⟨0⟩, trivial, ?_⟩, fun _ _ => ⟨fun _ _ => rfl, fun _ _ => rfl, fun _ _ => rfl, fun _ _ => rfl, by decide, okT_fit2, ?_⟩⟩⟩⟩
 ·and_intros <;> first | rfl | trivial | exact fit_n0
 ·and_intros <;> first | rfl | trivial | exact fit_n1
 ·and_intros <;> first | decide +kernel | (intro _; decide +kernel)
theorem cxD_ok : cxD.ok Tryd.prog := Cx.ok.setZ (((((((cx0_ok.addC dot_ok).addC cnl_ok).addC cln_ok).addC cnw_ok).addL rt_ok).addL set_ok).addL nw_ok) true
theorem fit_ok : CTok Tryd.prog 9 (C0 [] (XB true)) := C0_ok cxD_ok Tryd.func9 rfl (by decide) rfl fun _ => exv fitV_eq fit_v
end Go.Proofs.YtaglpckihegmoaaDoorAv
namespace Go.Proofs.YtaglpckihegmoaaDoorAv
open Go Go.RowKit
def gotB (T : LTab) (i : Int) : Bool := inB i && (T.at i.toNat).live
def remTb (T : LTab) (i : Int) : LTab := if gotB T i = true then putT T i zLnk T.g else T
def remN (T : LTab) (i : Int) : Int := if gotB T i = true then 0 else 12
def catF (n : Nat) (f g : Nat → List XV) : Nat → List XV := fun j => bif Nat.blt j n then f j else g (j - n)
def locN (T : LTab) : Nat := 0 + T.l0.loc.n + T.l1.loc.n + T.l2.loc.n + T.l3.loc.n
def locG (T : LTab) : Nat → List XV := catF (0 + T.l0.loc.n + T.l1.loc.n + T.l2.loc.n) (catF (0 + T.l0.loc.n + T.l1.loc.n) (catF (0 + T.l0.loc.n) T.l0.loc.g T.l1.loc.g) T.l2.loc.g) T.l3.loc.g
def u8D (x : XV) : Int := match x with
 | .v (.p (.int .u8 a)) => a
 | _ => 0
def lclD (l : List XV) : Lcl := ⟨fun k => u8D (l.getD k .top), boolD (l.getD 16 .top), boolD (l.getD 17 .top)⟩
theorem lclD_X (c : Lcl) : lclX (lclD (lclX c)) = lclX c := rfl
def locH (T : LTab) (j : Nat) : Lcl := lclD (locG T j)
def z7 : List XV := [XB false, XI 0, Xnil, XB false, XB false, Xnil, Xnil]
end Go.Proofs.YtaglpckihegmoaaDoorAv
namespace Go.Proofs.YtaglpckihegmoaaDoorAv
open Go Go.RowKit
theorem rm_no {T : LTab} {i : Int} (h : gotB T i = false) : remTb T i = T ∧ remN T i = 12 := by
 unfold remTb remN
 rw [if_neg (by rw [h]; decide), if_neg (by rw [h]; decide)]
 exact ⟨rfl, rfl⟩
theorem rm_yes {T : LTab} {i : Int} (h : gotB T i = true) : remTb T i = putT T i zLnk T.g ∧ remN T i = 0 := by
 unfold remTb remN
 rw [if_pos h, if_pos h]
 exact ⟨rfl, rfl⟩
theorem no_of {a b : Bool} (h : (!a) = true) (e : b = a) : b = false := by cases a <;> simp_all
theorem yes_of {a b : Bool} (h : (!a) = false) (e : b = a) : b = true := by cases a <;> simp_all
def locOk (T : LTab) : Prop := (T.l0.loc.n ≤ 4 ∧ T.l1.loc.n ≤ 4 ∧ T.l2.loc.n ≤ 4 ∧ T.l3.loc.n ≤ 4) ∧ ∀ j, j < locN T → locG T j = lclX (locH T j)
theorem brec {α : Type} (a b : α) (c : Bool) : (Bool.rec a b c : α) = bif c then b else a := by cases c <;> rfl
end Go.Proofs.YtaglpckihegmoaaDoorAv
namespace Go.Proofs.YtaglpckihegmoaaDoorAv
open Go Go.RowKit
structure Cll where
 kind : Int
 n : Int
 k : Lnk
def cllX (c : Cll) : List XV := XI c.kind :: XI c.n :: lnkX c.k
def litN (q : Sq Cll) : Nat → Bool
 | 0 => true
 | i + 1 => litN q i && decide (shwK (q.g i).k < 2000)
def litB (q : Sq Cll) : Bool := decide (q.n ≤ 60) && litN q q.n
def getK (T : LTab) (i : Int) : Lnk := if gotB T i = true then T.at i.toNat else zLnk
def elN (f g : Nat → Int) : Nat → Bool
 | 0 => true
 | i + 1 => elN f g i && decide (f i = g i)
def elQ (a b : Sq Int) : Bool := decide (a.n = b.n) && elN a.g b.g a.n
def cxN : Cx := { cx0 with C := [(10, shC)] }
def litI (q : Sq Cll) : Inv where
 σ := IL
 S := fun x => ⟨[(8, .fz q.n 9 fun i => cllX (q.g i)), (9, XI q.n), (10, XI x.i)], [], 0, false, []⟩
 inv := fun x => x.i ≤ q.n ∧ q.n ≤ 60 ∧ litN q x.i = true
 μ := fun x => q.n - x.i
def litE (q : Sq Cll) : Env := { loops := [(0, litI q)] }
def getE : Env := { cas := [(1, (1, [0, 1, 2, 3]))], gdec := [1] }
def elI (a b : Sq Int) : Inv where
 σ := IL
 S := fun x => ⟨[(0, .fz a.n 1 fun i => [XI (a.g i)]), (1, .fz b.n 1 fun i => [XI (b.g i)]), (12, XI a.n), (13, XI x.i)], [], 0, false, []⟩
 inv := fun x => x.i ≤ a.n ∧ a.n = b.n ∧ elN a.g b.g x.i = true
 μ := fun x => a.n - x.i
def elE (a b : Sq Int) : Env := { loops := [(0, elI a b)] }
def litV (q : Sq Cll) : Prop :=
 (decide ((↑q.n : Int) > (60 : Int)) = true → false = litB q) ∧ (decide ((↑q.n : Int) > (60 : Int)) = false → (∃ (x : (litI q).σ), (x.i ≤ q.n ∧ q.n ≤ (60 : Nat) ∧ litN q x.i = true) ∧ true = true ∧ ((XV.fz q.n 9 fun (i : Nat) => [XI ((q.g i).kind), XI ((q.g i).n), XB ((q.g i).k.live), XI ((q.g i).k.gen), XV.fz (q.g i).k.dom.n 1 fun (j : Nat) => [XT ((q.g i).k.dom.g j)], XB ((q.g i).k.dft), XB ((q.g i).k.ll), XV.fz (q.g i).k.srv.n 16 (q.g i).k.srv.g, XV.fz (q.g i).k.loc.n 18 (q.g i).k.loc.g]) = XV.fz q.n 9 fun (i : Nat) => [XI ((q.g i).kind), XI ((q.g i).n), XB ((q.g i).k.live), XI ((q.g i).k.gen), XV.fz (q.g i).k.dom.n 1 fun (j : Nat) => [XT ((q.g i).k.dom.g j)], XB ((q.g i).k.dft), XB ((q.g i).k.ll), XV.fz (q.g i).k.srv.n 16 (q.g i).k.srv.g, XV.fz (q.g i).k.loc.n 18 (q.g i).k.loc.g]) ∧ (↑q.n : Int) = (↑q.n : Int) ∧ (0 : Int) = (↑x.i : Int) ∧ True) ∧ ∀ (x : IL), x.i ≤ q.n ∧ q.n ≤ (60 : Nat) ∧ litN q x.i = true → (decide ((↑x.i : Int) < (↑q.n : Int)) = true → (0 : Int) ≤ (↑x.i : Int) ∧ (↑x.i : Int) < (↑q.n : Int) ∧ (∀ (i : Nat), i < (q.g (↑x.i : Int).toNat).k.dom.n → [XT ((q.g (↑x.i : Int).toNat).k.dom.g i)] = [XT ((q.g (↑x.i : Int).toNat).k.dom.g i)]) ∧ (q.g (↑x.i : Int).toNat).k.dom.n ≤ (4611686018427387904 : Nat) ∧ ((!decide (shwK (q.g (↑x.i : Int).toNat).k < (2000 : Int))) = true → false = litB q) ∧ ((!decide (shwK (q.g (↑x.i : Int).toNat).k < (2000 : Int))) = false → in64 ((↑x.i : Int) + (1 : Int)) ∧ ∃ (x' : (litI q).σ), (x'.i ≤ q.n ∧ q.n ≤ (60 : Nat) ∧ litN q x'.i = true) ∧ q.n - x'.i < q.n - x.i ∧ true = true ∧ ((XV.fz q.n 9 fun (i : Nat) => [XI ((q.g i).kind), XI ((q.g i).n), XB ((q.g i).k.live), XI ((q.g i).k.gen), XV.fz (q.g i).k.dom.n 1 fun (j : Nat) => [XT ((q.g i).k.dom.g j)], XB ((q.g i).k.dft), XB ((q.g i).k.ll), XV.fz (q.g i).k.srv.n 16 (q.g i).k.srv.g, XV.fz (q.g i).k.loc.n 18 (q.g i).k.loc.g]) = XV.fz q.n 9 fun (i : Nat) => [XI ((q.g i).kind), XI ((q.g i).n), XB ((q.g i).k.live), XI ((q.g i).k.gen), XV.fz (q.g i).k.dom.n 1 fun (j : Nat) => [XT ((q.g i).k.dom.g j)], XB ((q.g i).k.dft), XB ((q.g i).k.ll), XV.fz (q.g i).k.srv.n 16 (q.g i).k.srv.g, XV.fz (q.g i).k.loc.n 18 (q.g i).k.loc.g]) ∧ (↑q.n : Int) = (↑q.n : Int) ∧ (↑x.i : Int) + (1 : Int) = (↑x'.i : Int) ∧ True)) ∧ (decide ((↑x.i : Int) < (↑q.n : Int)) = false → true = litB q))
theorem litV_eq (q : Sq Cll) : litV q = (funC cxN Tryd.f18 (mkSc (litE q) (bodyOf Tryd.f18)) [.fz q.n 9 fun i => cllX (q.g i)] (XB (litB q))) := by kernel_rfl
def getV (T : LTab) (i : Int) (e : TypeId) (ap : Bool) : Prop :=
 (i = (0 : Int) ∨ i = (1 : Int) ∨ i = (2 : Int) ∨ i = (3 : Int) ∨ False) ∧ (i = (0 : Int) → (0 : Int) ≤ (0 : Int) ∧ (0 : Int) < (↑(4 : Nat) : Int) ∧ ((!T.l0.live) = true → ((false = (getK T i).live ∧ (0 : Int) = (getK T i).gen ∧ (getK T i).dom.n = (0 : Nat) ∧ false = (getK T i).dft ∧ false = (getK T i).ll ∧ (getK T i).srv.n = (0 : Nat) ∧ (getK T i).loc.n = (0 : Nat) ∧ True) ∧ false = gotB T i ∧ True) ∧ (e = e ∧ ap = ap) ∧ T.l0.live = T.l0.live ∧ T.l0.gen = T.l0.gen ∧ ((1 : Nat) = (1 : Nat) ∧ T.l0.dom.n = T.l0.dom.n ∧ ∀ (j : Nat), j < T.l0.dom.n → [XT (T.l0.dom.g j)] = [XT (T.l0.dom.g j)]) ∧ T.l0.dft = T.l0.dft ∧ T.l0.ll = T.l0.ll ∧ ((16 : Nat) = (16 : Nat) ∧ T.l0.srv.n = T.l0.srv.n ∧ ∀ (j : Nat), j < T.l0.srv.n → T.l0.srv.g j = T.l0.srv.g j) ∧ ((18 : Nat) = (18 : Nat) ∧ T.l0.loc.n = T.l0.loc.n ∧ ∀ (j : Nat), j < T.l0.loc.n → T.l0.loc.g j = T.l0.loc.g j) ∧ T.l1.live = T.l1.live ∧ T.l1.gen = T.l1.gen ∧ ((1 : Nat) = (1 : Nat) ∧ T.l1.dom.n = T.l1.dom.n ∧ ∀ (j : Nat), j < T.l1.dom.n → [XT (T.l1.dom.g j)] = [XT (T.l1.dom.g j)]) ∧ T.l1.dft = T.l1.dft ∧ T.l1.ll = T.l1.ll ∧ ((16 : Nat) = (16 : Nat) ∧ T.l1.srv.n = T.l1.srv.n ∧ ∀ (j : Nat), j < T.l1.srv.n → T.l1.srv.g j = T.l1.srv.g j) ∧ ((18 : Nat) = (18 : Nat) ∧ T.l1.loc.n = T.l1.loc.n ∧ ∀ (j : Nat), j < T.l1.loc.n → T.l1.loc.g j = T.l1.loc.g j) ∧ T.l2.live = T.l2.live ∧ T.l2.gen = T.l2.gen ∧ ((1 : Nat) = (1 : Nat) ∧ T.l2.dom.n = T.l2.dom.n ∧ ∀ (j : Nat), j < T.l2.dom.n → [XT (T.l2.dom.g j)] = [XT (T.l2.dom.g j)]) ∧ T.l2.dft = T.l2.dft ∧ T.l2.ll = T.l2.ll ∧ ((16 : Nat) = (16 : Nat) ∧ T.l2.srv.n = T.l2.srv.n ∧ ∀ (j : Nat), j < T.l2.srv.n → T.l2.srv.g j = T.l2.srv.g j) ∧ ((18 : Nat) = (18 : Nat) ∧ T.l2.loc.n = T.l2.loc.n ∧ ∀ (j : Nat), j < T.l2.loc.n → T.l2.loc.g j = T.l2.loc.g j) ∧ T.l3.live = T.l3.live ∧ T.l3.gen = T.l3.gen ∧ ((1 : Nat) = (1 : Nat) ∧ T.l3.dom.n = T.l3.dom.n ∧ ∀ (j : Nat), j < T.l3.dom.n → [XT (T.l3.dom.g j)] = [XT (T.l3.dom.g j)]) ∧ T.l3.dft = T.l3.dft ∧ T.l3.ll = T.l3.ll ∧ ((16 : Nat) = (16 : Nat) ∧ T.l3.srv.n = T.l3.srv.n ∧ ∀ (j : Nat), j < T.l3.srv.n → T.l3.srv.g j = T.l3.srv.g j) ∧ ((18 : Nat) = (18 : Nat) ∧ T.l3.loc.n = T.l3.loc.n ∧ ∀ (j : Nat), j < T.l3.loc.n → T.l3.loc.g j = T.l3.loc.g j) ∧ True ∧ True ∧ True ∧ True ∧ T.g = T.g ∧ True) ∧ ((!T.l0.live) = false → (0 : Int) ≤ (0 : Int) ∧ (0 : Int) < (↑(4 : Nat) : Int) ∧ ((T.l0.live = (getK T i).live ∧ T.l0.gen = (getK T i).gen ∧ ((1 : Nat) = (1 : Nat) ∧ T.l0.dom.n = (getK T i).dom.n ∧ ∀ (j : Nat), j < T.l0.dom.n → [XT (T.l0.dom.g j)] = [XT ((getK T i).dom.g j)]) ∧ T.l0.dft = (getK T i).dft ∧ T.l0.ll = (getK T i).ll ∧ ((16 : Nat) = (16 : Nat) ∧ T.l0.srv.n = (getK T i).srv.n ∧ ∀ (j : Nat), j < T.l0.srv.n → T.l0.srv.g j = (getK T i).srv.g j) ∧ ((18 : Nat) = (18 : Nat) ∧ T.l0.loc.n = (getK T i).loc.n ∧ ∀ (j : Nat), j < T.l0.loc.n → T.l0.loc.g j = (getK T i).loc.g j) ∧ True) ∧ true = gotB T i ∧ True) ∧ (e = e ∧ ap = ap) ∧ T.l0.live = T.l0.live ∧ T.l0.gen = T.l0.gen ∧ ((1 : Nat) = (1 : Nat) ∧ T.l0.dom.n = T.l0.dom.n ∧ ∀ (j : Nat), j < T.l0.dom.n → [XT (T.l0.dom.g j)] = [XT (T.l0.dom.g j)]) ∧ T.l0.dft = T.l0.dft ∧ T.l0.ll = T.l0.ll ∧ ((16 : Nat) = (16 : Nat) ∧ T.l0.srv.n = T.l0.srv.n ∧ ∀ (j : Nat), j < T.l0.srv.n → T.l0.srv.g j = T.l0.srv.g j) ∧ ((18 : Nat) = (18 : Nat) ∧ T.l0.loc.n = T.l0.loc.n ∧ ∀ (j : Nat), j < T.l0.loc.n → T.l0.loc.g j = T.l0.loc.g j) ∧ T.l1.live = T.l1.live ∧ T.l1.gen = T.l1.gen ∧ ((1 : Nat) = (1 : Nat) ∧ T.l1.dom.n = T.l1.dom.n ∧ ∀ (j : Nat), j < T.l1.dom.n → [XT (T.l1.dom.g j)] = [XT (T.l1.dom.g j)]) ∧ T.l1.dft = T.l1.dft ∧ T.l1.ll = T.l1.ll ∧ ((16 : Nat) = (16 : Nat) ∧ T.l1.srv.n = T.l1.srv.n ∧ ∀ (j : Nat), j < T.l1.srv.n → T.l1.srv.g j = T.l1.srv.g j) ∧ ((18 : Nat) = (18 : Nat) ∧ T.l1.loc.n = T.l1.loc.n ∧ ∀ (j : Nat), j < T.l1.loc.n → T.l1.loc.g j = T.l1.loc.g j) ∧ T.l2.live = T.l2.live ∧ T.l2.gen = T.l2.gen ∧ ((1 : Nat) = (1 : Nat) ∧ T.l2.dom.n = T.l2.dom.n ∧ ∀ (j : Nat), j < T.l2.dom.n → [XT (T.l2.dom.g j)] = [XT (T.l2.dom.g j)]) ∧ T.l2.dft = T.l2.dft ∧ T.l2.ll = T.l2.ll ∧ ((16 : Nat) = (16 : Nat) ∧ T.l2.srv.n = T.l2.srv.n ∧ ∀ (j : Nat), j < T.l2.srv.n → T.l2.srv.g j = T.l2.srv.g j) ∧ ((18 : Nat) = (18 : Nat) ∧ T.l2.loc.n = T.l2.loc.n ∧ ∀ (j : Nat), j < T.l2.loc.n → T.l2.loc.g j = T.l2.loc.g j) ∧ T.l3.live = T.l3.live ∧ T.l3.gen = T.l3.gen ∧ ((1 : Nat) = (1 : Nat) ∧ T.l3.dom.n = T.l3.dom.n ∧ ∀ (j : Nat), j < T.l3.dom.n → [XT (T.l3.dom.g j)] = [XT (T.l3.dom.g j)]) ∧ T.l3.dft = T.l3.dft ∧ T.l3.ll = T.l3.ll ∧ ((16 : Nat) = (16 : Nat) ∧ T.l3.srv.n = T.l3.srv.n ∧ ∀ (j : Nat), j < T.l3.srv.n → T.l3.srv.g j = T.l3.srv.g j) ∧ ((18 : Nat) = (18 : Nat) ∧ T.l3.loc.n = T.l3.loc.n ∧ ∀ (j : Nat), j < T.l3.loc.n → T.l3.loc.g j = T.l3.loc.g j) ∧ True ∧ True ∧ True ∧ True ∧ T.g = T.g ∧ True)) ∧ (i = (1 : Int) → (0 : Int) ≤ (1 : Int) ∧ (1 : Int) < (↑(4 : Nat) : Int) ∧ ((!T.l1.live) = true → ((false = (getK T i).live ∧ (0 : Int) = (getK T i).gen ∧ (getK T i).dom.n = (0 : Nat) ∧ false = (getK T i).dft ∧ false = (getK T i).ll ∧ (getK T i).srv.n = (0 : Nat) ∧ (getK T i).loc.n = (0 : Nat) ∧ True) ∧ false = gotB T i ∧ True) ∧ (e = e ∧ ap = ap) ∧ T.l0.live = T.l0.live ∧ T.l0.gen = T.l0.gen ∧ ((1 : Nat) = (1 : Nat) ∧ T.l0.dom.n = T.l0.dom.n ∧ ∀ (j : Nat), j < T.l0.dom.n → [XT (T.l0.dom.g j)] = [XT (T.l0.dom.g j)]) ∧ T.l0.dft = T.l0.dft ∧ T.l0.ll = T.l0.ll ∧ ((16 : Nat) = (16 : Nat) ∧ T.l0.srv.n = T.l0.srv.n ∧ ∀ (j : Nat), j < T.l0.srv.n → T.l0.srv.g j = T.l0.srv.g j) ∧ ((18 : Nat) = (18 : Nat) ∧ T.l0.loc.n = T.l0.loc.n ∧ ∀ (j : Nat), j < T.l0.loc.n → T.l0.loc.g j = T.l0.loc.g j) ∧ T.l1.live = T.l1.live ∧ T.l1.gen = T.l1.gen ∧ ((1 : Nat) = (1 : Nat) ∧ T.l1.dom.n = T.l1.dom.n ∧ ∀ (j : Nat), j < T.l1.dom.n → [XT (T.l1.dom.g j)] = [XT (T.l1.dom.g j)]) ∧ T.l1.dft = T.l1.dft ∧ T.l1.ll = T.l1.ll ∧ ((16 : Nat) = (16 : Nat) ∧ T.l1.srv.n = T.l1.srv.n ∧ ∀ (j : Nat), j < T.l1.srv.n → T.l1.srv.g j = T.l1.srv.g j) ∧ ((18 : Nat) = (18 : Nat) ∧ T.l1.loc.n = T.l1.loc.n ∧ ∀ (j : Nat), j < T.l1.loc.n → T.l1.loc.g j = T.l1.loc.g j) ∧ T.l2.live = T.l2.live ∧ T.l2.gen = T.l2.gen ∧ ((1 : Nat) = (1 : Nat) ∧ T.l2.dom.n = T.l2.dom.n ∧ ∀ (j : Nat), j < T.l2.dom.n → [XT (T.l2.dom.g j)] = [XT (T.l2.dom.g j)]) ∧ T.l2.dft = T.l2.dft ∧ T.l2.ll = T.l2.ll ∧ ((16 : Nat) = (16 : Nat) ∧ T.l2.srv.n = T.l2.srv.n ∧ ∀ (j : Nat), j < T.l2.srv.n → T.l2.srv.g j = T.l2.srv.g j) ∧ ((18 : Nat) = (18 : Nat) ∧ T.l2.loc.n = T.l2.loc.n ∧ ∀ (j : Nat), j < T.l2.loc.n → T.l2.loc.g j = T.l2.loc.g j) ∧ T.l3.live = T.l3.live ∧ T.l3.gen = T.l3.gen ∧ ((1 : Nat) = (1 : Nat) ∧ T.l3.dom.n = T.l3.dom.n ∧ ∀ (j : Nat), j < T.l3.dom.n → [XT (T.l3.dom.g j)] = [XT (T.l3.dom.g j)]) ∧ T.l3.dft = T.l3.dft ∧ T.l3.ll = T.l3.ll ∧ ((16 : Nat) = (16 : Nat) ∧ T.l3.srv.n = T.l3.srv.n ∧ ∀ (j : Nat), j < T.l3.srv.n → T.l3.srv.g j = T.l3.srv.g j) ∧ ((18 : Nat) = (18 : Nat) ∧ T.l3.loc.n = T.l3.loc.n ∧ ∀ (j : Nat), j < T.l3.loc.n → T.l3.loc.g j = T.l3.loc.g j) ∧ True ∧ True ∧ True ∧ True ∧ T.g = T.g ∧ True) ∧ ((!T.l1.live) = false → (0 : Int) ≤ (1 : Int) ∧ (1 : Int) < (↑(4 : Nat) : Int) ∧ ((T.l1.live = (getK T i).live ∧ T.l1.gen = (getK T i).gen ∧ ((1 : Nat) = (1 : Nat) ∧ T.l1.dom.n = (getK T i).dom.n ∧ ∀ (j : Nat), j < T.l1.dom.n → [XT (T.l1.dom.g j)] = [XT ((getK T i).dom.g j)]) ∧ T.l1.dft = (getK T i).dft ∧ T.l1.ll = (getK T i).ll ∧ ((16 : Nat) = (16 : Nat) ∧ T.l1.srv.n = (getK T i).srv.n ∧ ∀ (j : Nat), j < T.l1.srv.n → T.l1.srv.g j = (getK T i).srv.g j) ∧ ((18 : Nat) = (18 : Nat) ∧ T.l1.loc.n = (getK T i).loc.n ∧ ∀ (j : Nat), j < T.l1.loc.n → T.l1.loc.g j = (getK T i).loc.g j) ∧ True) ∧ true = gotB T i ∧ True) ∧ (e = e ∧ ap = ap) ∧ T.l0.live = T.l0.live ∧ T.l0.gen = T.l0.gen ∧ ((1 : Nat) = (1 : Nat) ∧ T.l0.dom.n = T.l0.dom.n ∧ ∀ (j : Nat), j < T.l0.dom.n → [XT (T.l0.dom.g j)] = [XT (T.l0.dom.g j)]) ∧ T.l0.dft = T.l0.dft ∧ T.l0.ll = T.l0.ll ∧ ((16 : Nat) = (16 : Nat) ∧ T.l0.srv.n = T.l0.srv.n ∧ ∀ (j : Nat), j < T.l0.srv.n → T.l0.srv.g j = T.l0.srv.g j) ∧ ((18 : Nat) = (18 : Nat) ∧ T.l0.loc.n = T.l0.loc.n ∧ ∀ (j : Nat), j < T.l0.loc.n → T.l0.loc.g j = T.l0.loc.g j) ∧ T.l1.live = T.l1.live ∧ T.l1.gen = T.l1.gen ∧ ((1 : Nat) = (1 : Nat) ∧ T.l1.dom.n = T.l1.dom.n ∧ ∀ (j : Nat), j < T.l1.dom.n → [XT (T.l1.dom.g j)] = [XT (T.l1.dom.g j)]) ∧ T.l1.dft = T.l1.dft ∧ T.l1.ll = T.l1.ll ∧ ((16 : Nat) = (16 : Nat) ∧ T.l1.srv.n = T.l1.srv.n ∧ ∀ (j : Nat), j < T.l1.srv.n → T.l1.srv.g j = T.l1.srv.g j) ∧ ((18 : Nat) = (18 : Nat) ∧ T.l1.loc.n = T.l1.loc.n ∧ ∀ (j : Nat), j < T.l1.loc.n → T.l1.loc.g j = T.l1.loc.g j) ∧ T.l2.live = T.l2.live ∧ T.l2.gen = T.l2.gen ∧ ((1 : Nat) = (1 : Nat) ∧ T.l2.dom.n = T.l2.dom.n ∧ ∀ (j : Nat), j < T.l2.dom.n → [XT (T.l2.dom.g j)] = [XT (T.l2.dom.g j)]) ∧ T.l2.dft = T.l2.dft ∧ T.l2.ll = T.l2.ll ∧ ((16 : Nat) = (16 : Nat) ∧ T.l2.srv.n = T.l2.srv.n ∧ ∀ (j : Nat), j < T.l2.srv.n → T.l2.srv.g j = T.l2.srv.g j) ∧ ((18 : Nat) = (18 : Nat) ∧ T.l2.loc.n = T.l2.loc.n ∧ ∀ (j : Nat), j < T.l2.loc.n → T.l2.loc.g j = T.l2.loc.g j) ∧ T.l3.live = T.l3.live ∧ T.l3.gen = T.l3.gen ∧ ((1 : Nat) = (1 : Nat) ∧ T.l3.dom.n = T.l3.dom.n ∧ ∀ (j : Nat), j < T.l3.dom.n → [XT (T.l3.dom.g j)] = [XT (T.l3.dom.g j)]) ∧ T.l3.dft = T.l3.dft ∧ T.l3.ll = T.l3.ll ∧ ((16 : Nat) = (16 : Nat) ∧ T.l3.srv.n = T.l3.srv.n ∧ ∀ (j : Nat), j < T.l3.srv.n → T.l3.srv.g j = T.l3.srv.g j) ∧ ((18 : Nat) = (18 : Nat) ∧ T.l3.loc.n = T.l3.loc.n ∧ ∀ (j : Nat), j < T.l3.loc.n → T.l3.loc.g j = T.l3.loc.g j) ∧ True ∧ True ∧ True ∧ True ∧ T.g = T.g ∧ True)) ∧ (i = (2 : Int) → (0 : Int) ≤ (2 : Int) ∧ (2 : Int) < (↑(4 : Nat) : Int) ∧ ((!T.l2.live) = true → ((false = (getK T i).live ∧ (0 : Int) = (getK T i).gen ∧ (getK T i).dom.n = (0 : Nat) ∧ false = (getK T i).dft ∧ false = (getK T i).ll ∧ (getK T i).srv.n = (0 : Nat) ∧ (getK T i).loc.n = (0 : Nat) ∧ True) ∧ false = gotB T i ∧ True) ∧ (e = e ∧ ap = ap) ∧ T.l0.live = T.l0.live ∧ T.l0.gen = T.l0.gen ∧ ((1 : Nat) = (1 : Nat) ∧ T.l0.dom.n = T.l0.dom.n ∧ ∀ (j : Nat), j < T.l0.dom.n → [XT (T.l0.dom.g j)] = [XT (T.l0.dom.g j)]) ∧ T.l0.dft = T.l0.dft ∧ T.l0.ll = T.l0.ll ∧ ((16 : Nat) = (16 : Nat) ∧ T.l0.srv.n = T.l0.srv.n ∧ ∀ (j : Nat), j < T.l0.srv.n → T.l0.srv.g j = T.l0.srv.g j) ∧ ((18 : Nat) = (18 : Nat) ∧ T.l0.loc.n = T.l0.loc.n ∧ ∀ (j : Nat), j < T.l0.loc.n → T.l0.loc.g j = T.l0.loc.g j) ∧ T.l1.live = T.l1.live ∧ T.l1.gen = T.l1.gen ∧ ((1 : Nat) = (1 : Nat) ∧ T.l1.dom.n = T.l1.dom.n ∧ ∀ (j : Nat), j < T.l1.dom.n → [XT (T.l1.dom.g j)] = [XT (T.l1.dom.g j)]) ∧ T.l1.dft = T.l1.dft ∧ T.l1.ll = T.l1.ll ∧ ((16 : Nat) = (16 : Nat) ∧ T.l1.srv.n = T.l1.srv.n ∧ ∀ (j : Nat), j < T.l1.srv.n → T.l1.srv.g j = T.l1.srv.g j) ∧ ((18 : Nat) = (18 : Nat) ∧ T.l1.loc.n = T.l1.loc.n ∧ ∀ (j : Nat), j < T.l1.loc.n → T.l1.loc.g j = T.l1.loc.g j) ∧ T.l2.live = T.l2.live ∧ T.l2.gen = T.l2.gen ∧ ((1 : Nat) = (1 : Nat) ∧ T.l2.dom.n = T.l2.dom.n ∧ ∀ (j : Nat), j < T.l2.dom.n → [XT (T.l2.dom.g j)] = [XT (T.l2.dom.g j)]) ∧ T.l2.dft = T.l2.dft ∧ T.l2.ll = T.l2.ll ∧ ((16 : Nat) = (16 : Nat) ∧ T.l2.srv.n = T.l2.srv.n ∧ ∀ (j : Nat), j < T.l2.srv.n → T.l2.srv.g j = T.l2.srv.g j) ∧ ((18 : Nat) = (18 : Nat) ∧ T.l2.loc.n = T.l2.loc.n ∧ ∀ (j : Nat), j < T.l2.loc.n → T.l2.loc.g j = T.l2.loc.g j) ∧ T.l3.live = T.l3.live ∧ T.l3.gen = T.l3.gen ∧ ((1 : Nat) = (1 : Nat) ∧ T.l3.dom.n = T.l3.dom.n ∧ ∀ (j : Nat), j < T.l3.dom.n → [XT (T.l3.dom.g j)] = [XT (T.l3.dom.g j)]) ∧ T.l3.dft = T.l3.dft ∧ T.l3.ll = T.l3.ll ∧ ((16 : Nat) = (16 : Nat) ∧ T.l3.srv.n = T.l3.srv.n ∧ ∀ (j : Nat), j < T.l3.srv.n → T.l3.srv.g j = T.l3.srv.g j) ∧ ((18 : Nat) = (18 : Nat) ∧ T.l3.loc.n = T.l3.loc.n ∧ ∀ (j : Nat), j < T.l3.loc.n → T.l3.loc.g j = T.l3.loc.g j) ∧ True ∧ True ∧ True ∧ True ∧ T.g = T.g ∧ True) ∧ ((!T.l2.live) = false → (0 : Int) ≤ (2 : Int) ∧ (2 : Int) < (↑(4 : Nat) : Int) ∧ ((T.l2.live = (getK T i).live ∧ T.l2.gen = (getK T i).gen ∧ ((1 : Nat) = (1 : Nat) ∧ T.l2.dom.n = (getK T i).dom.n ∧ ∀ (j : Nat), j < T.l2.dom.n → [XT (T.l2.dom.g j)] = [XT ((getK T i).dom.g j)]) ∧ T.l2.dft = (getK T i).dft ∧ T.l2.ll = (getK T i).ll ∧ ((16 : Nat) = (16 : Nat) ∧ T.l2.srv.n = (getK T i).srv.n ∧ ∀ (j : Nat), j < T.l2.srv.n → T.l2.srv.g j = (getK T i).srv.g j) ∧ ((18 : Nat) = (18 : Nat) ∧ T.l2.loc.n = (getK T i).loc.n ∧ ∀ (j : Nat), j < T.l2.loc.n → T.l2.loc.g j = (getK T i).loc.g j) ∧ True) ∧ true = gotB T i ∧ True) ∧ (e = e ∧ ap = ap) ∧ T.l0.live = T.l0.live ∧ T.l0.gen = T.l0.gen ∧ ((1 : Nat) = (1 : Nat) ∧ T.l0.dom.n = T.l0.dom.n ∧ ∀ (j : Nat), j < T.l0.dom.n → [XT (T.l0.dom.g j)] = [XT (T.l0.dom.g j)]) ∧ T.l0.dft = T.l0.dft ∧ T.l0.ll = T.l0.ll ∧ ((16 : Nat) = (16 : Nat) ∧ T.l0.srv.n = T.l0.srv.n ∧ ∀ (j : Nat), j < T.l0.srv.n → T.l0.srv.g j = T.l0.srv.g j) ∧ ((18 : Nat) = (18 : Nat) ∧ T.l0.loc.n = T.l0.loc.n ∧ ∀ (j : Nat), j < T.l0.loc.n → T.l0.loc.g j = T.l0.loc.g j) ∧ T.l1.live = T.l1.live ∧ T.l1.gen = T.l1.gen ∧ ((1 : Nat) = (1 : Nat) ∧ T.l1.dom.n = T.l1.dom.n ∧ ∀ (j : Nat), j < T.l1.dom.n → [XT (T.l1.dom.g j)] = [XT (T.l1.dom.g j)]) ∧ T.l1.dft = T.l1.dft ∧ T.l1.ll = T.l1.ll ∧ ((16 : Nat) = (16 : Nat) ∧ T.l1.srv.n = T.l1.srv.n ∧ ∀ (j : Nat), j < T.l1.srv.n → T.l1.srv.g j = T.l1.srv.g j) ∧ ((18 : Nat) = (18 : Nat) ∧ T.l1.loc.n = T.l1.loc.n ∧ ∀ (j : Nat), j < T.l1.loc.n → T.l1.loc.g j = T.l1.loc.g j) ∧ T.l2.live = T.l2.live ∧ T.l2.gen = T.l2.gen ∧ ((1 : Nat) = (1 : Nat) ∧ T.l2.dom.n = T.l2.dom.n ∧ ∀ (j : Nat), j < T.l2.dom.n → [XT (T.l2.dom.g j)] = [XT (T.l2.dom.g j)]) ∧ T.l2.dft = T.l2.dft ∧ T.l2.ll = T.l2.ll ∧ ((16 : Nat) = (16 : Nat) ∧ T.l2.srv.n = T.l2.srv.n ∧ ∀ (j : Nat), j < T.l2.srv.n → T.l2.srv.g j = T.l2.srv.g j) ∧ ((18 : Nat) = (18 : Nat) ∧ T.l2.loc.n = T.l2.loc.n ∧ ∀ (j : Nat), j < T.l2.loc.n → T.l2.loc.g j = T.l2.loc.g j) ∧ T.l3.live = T.l3.live ∧ T.l3.gen = T.l3.gen ∧ ((1 : Nat) = (1 : Nat) ∧ T.l3.dom.n = T.l3.dom.n ∧ ∀ (j : Nat), j < T.l3.dom.n → [XT (T.l3.dom.g j)] = [XT (T.l3.dom.g j)]) ∧ T.l3.dft = T.l3.dft ∧ T.l3.ll = T.l3.ll ∧ ((16 : Nat) = (16 : Nat) ∧ T.l3.srv.n = T.l3.srv.n ∧ ∀ (j : Nat), j < T.l3.srv.n → T.l3.srv.g j = T.l3.srv.g j) ∧ ((18 : Nat) = (18 : Nat) ∧ T.l3.loc.n = T.l3.loc.n ∧ ∀ (j : Nat), j < T.l3.loc.n → T.l3.loc.g j = T.l3.loc.g j) ∧ True ∧ True ∧ True ∧ True ∧ T.g = T.g ∧ True)) ∧ (i = (3 : Int) → (0 : Int) ≤ (3 : Int) ∧ (3 : Int) < (↑(4 : Nat) : Int) ∧ ((!T.l3.live) = true → ((false = (getK T i).live ∧ (0 : Int) = (getK T i).gen ∧ (getK T i).dom.n = (0 : Nat) ∧ false = (getK T i).dft ∧ false = (getK T i).ll ∧ (getK T i).srv.n = (0 : Nat) ∧ (getK T i).loc.n = (0 : Nat) ∧ True) ∧ false = gotB T i ∧ True) ∧ (e = e ∧ ap = ap) ∧ T.l0.live = T.l0.live ∧ T.l0.gen = T.l0.gen ∧ ((1 : Nat) = (1 : Nat) ∧ T.l0.dom.n = T.l0.dom.n ∧ ∀ (j : Nat), j < T.l0.dom.n → [XT (T.l0.dom.g j)] = [XT (T.l0.dom.g j)]) ∧ T.l0.dft = T.l0.dft ∧ T.l0.ll = T.l0.ll ∧ ((16 : Nat) = (16 : Nat) ∧ T.l0.srv.n = T.l0.srv.n ∧ ∀ (j : Nat), j < T.l0.srv.n → T.l0.srv.g j = T.l0.srv.g j) ∧ ((18 : Nat) = (18 : Nat) ∧ T.l0.loc.n = T.l0.loc.n ∧ ∀ (j : Nat), j < T.l0.loc.n → T.l0.loc.g j = T.l0.loc.g j) ∧ T.l1.live = T.l1.live ∧ T.l1.gen = T.l1.gen ∧ ((1 : Nat) = (1 : Nat) ∧ T.l1.dom.n = T.l1.dom.n ∧ ∀ (j : Nat), j < T.l1.dom.n → [XT (T.l1.dom.g j)] = [XT (T.l1.dom.g j)]) ∧ T.l1.dft = T.l1.dft ∧ T.l1.ll = T.l1.ll ∧ ((16 : Nat) = (16 : Nat) ∧ T.l1.srv.n = T.l1.srv.n ∧ ∀ (j : Nat), j < T.l1.srv.n → T.l1.srv.g j = T.l1.srv.g j) ∧ ((18 : Nat) = (18 : Nat) ∧ T.l1.loc.n = T.l1.loc.n ∧ ∀ (j : Nat), j < T.l1.loc.n → T.l1.loc.g j = T.l1.loc.g j) ∧ T.l2.live = T.l2.live ∧ T.l2.gen = T.l2.gen ∧ ((1 : Nat) = (1 : Nat) ∧ T.l2.dom.n = T.l2.dom.n ∧ ∀ (j : Nat), j < T.l2.dom.n → [XT (T.l2.dom.g j)] = [XT (T.l2.dom.g j)]) ∧ T.l2.dft = T.l2.dft ∧ T.l2.ll = T.l2.ll ∧ ((16 : Nat) = (16 : Nat) ∧ T.l2.srv.n = T.l2.srv.n ∧ ∀ (j : Nat), j < T.l2.srv.n → T.l2.srv.g j = T.l2.srv.g j) ∧ ((18 : Nat) = (18 : Nat) ∧ T.l2.loc.n = T.l2.loc.n ∧ ∀ (j : Nat), j < T.l2.loc.n → T.l2.loc.g j = T.l2.loc.g j) ∧ T.l3.live = T.l3.live ∧ T.l3.gen = T.l3.gen ∧ ((1 : Nat) = (1 : Nat) ∧ T.l3.dom.n = T.l3.dom.n ∧ ∀ (j : Nat), j < T.l3.dom.n → [XT (T.l3.dom.g j)] = [XT (T.l3.dom.g j)]) ∧ T.l3.dft = T.l3.dft ∧ T.l3.ll = T.l3.ll ∧ ((16 : Nat) = (16 : Nat) ∧ T.l3.srv.n = T.l3.srv.n ∧ ∀ (j : Nat), j < T.l3.srv.n → T.l3.srv.g j = T.l3.srv.g j) ∧ ((18 : Nat) = (18 : Nat) ∧ T.l3.loc.n = T.l3.loc.n ∧ ∀ (j : Nat), j < T.l3.loc.n → T.l3.loc.g j = T.l3.loc.g j) ∧ True ∧ True ∧ True ∧ True ∧ T.g = T.g ∧ True) ∧ ((!T.l3.live) = false → (0 : Int) ≤ (3 : Int) ∧ (3 : Int) < (↑(4 : Nat) : Int) ∧ ((T.l3.live = (getK T i).live ∧ T.l3.gen = (getK T i).gen ∧ ((1 : Nat) = (1 : Nat) ∧ T.l3.dom.n = (getK T i).dom.n ∧ ∀ (j : Nat), j < T.l3.dom.n → [XT (T.l3.dom.g j)] = [XT ((getK T i).dom.g j)]) ∧ T.l3.dft = (getK T i).dft ∧ T.l3.ll = (getK T i).ll ∧ ((16 : Nat) = (16 : Nat) ∧ T.l3.srv.n = (getK T i).srv.n ∧ ∀ (j : Nat), j < T.l3.srv.n → T.l3.srv.g j = (getK T i).srv.g j) ∧ ((18 : Nat) = (18 : Nat) ∧ T.l3.loc.n = (getK T i).loc.n ∧ ∀ (j : Nat), j < T.l3.loc.n → T.l3.loc.g j = (getK T i).loc.g j) ∧ True) ∧ true = gotB T i ∧ True) ∧ (e = e ∧ ap = ap) ∧ T.l0.live = T.l0.live ∧ T.l0.gen = T.l0.gen ∧ ((1 : Nat) = (1 : Nat) ∧ T.l0.dom.n = T.l0.dom.n ∧ ∀ (j : Nat), j < T.l0.dom.n → [XT (T.l0.dom.g j)] = [XT (T.l0.dom.g j)]) ∧ T.l0.dft = T.l0.dft ∧ T.l0.ll = T.l0.ll ∧ ((16 : Nat) = (16 : Nat) ∧ T.l0.srv.n = T.l0.srv.n ∧ ∀ (j : Nat), j < T.l0.srv.n → T.l0.srv.g j = T.l0.srv.g j) ∧ ((18 : Nat) = (18 : Nat) ∧ T.l0.loc.n = T.l0.loc.n ∧ ∀ (j : Nat), j < T.l0.loc.n → T.l0.loc.g j = T.l0.loc.g j) ∧ T.l1.live = T.l1.live ∧ T.l1.gen = T.l1.gen ∧ ((1 : Nat) = (1 : Nat) ∧ T.l1.dom.n = T.l1.dom.n ∧ ∀ (j : Nat), j < T.l1.dom.n → [XT (T.l1.dom.g j)] = [XT (T.l1.dom.g j)]) ∧ T.l1.dft = T.l1.dft ∧ T.l1.ll = T.l1.ll ∧ ((16 : Nat) = (16 : Nat) ∧ T.l1.srv.n = T.l1.srv.n ∧ ∀ (j : Nat), j < T.l1.srv.n → T.l1.srv.g j = T.l1.srv.g j) ∧ ((18 : Nat) = (18 : Nat) ∧ T.l1.loc.n = T.l1.loc.n ∧ ∀ (j : Nat), j < T.l1.loc.n → T.l1.loc.g j = T.l1.loc.g j) ∧ T.l2.live = T.l2.live ∧ T.l2.gen = T.l2.gen ∧ ((1 : Nat) = (1 : Nat) ∧ T.l2.dom.n = T.l2.dom.n ∧ ∀ (j : Nat), j < T.l2.dom.n → [XT (T.l2.dom.g j)] = [XT (T.l2.dom.g j)]) ∧ T.l2.dft = T.l2.dft ∧ T.l2.ll = T.l2.ll ∧ ((16 : Nat) = (16 : Nat) ∧ T.l2.srv.n = T.l2.srv.n ∧ ∀ (j : Nat), j < T.l2.srv.n → T.l2.srv.g j = T.l2.srv.g j) ∧ ((18 : Nat) = (18 : Nat) ∧ T.l2.loc.n = T.l2.loc.n ∧ ∀ (j : Nat), j < T.l2.loc.n → T.l2.loc.g j = T.l2.loc.g j) ∧ T.l3.live = T.l3.live ∧ T.l3.gen = T.l3.gen ∧ ((1 : Nat) = (1 : Nat) ∧ T.l3.dom.n = T.l3.dom.n ∧ ∀ (j : Nat), j < T.l3.dom.n → [XT (T.l3.dom.g j)] = [XT (T.l3.dom.g j)]) ∧ T.l3.dft = T.l3.dft ∧ T.l3.ll = T.l3.ll ∧ ((16 : Nat) = (16 : Nat) ∧ T.l3.srv.n = T.l3.srv.n ∧ ∀ (j : Nat), j < T.l3.srv.n → T.l3.srv.g j = T.l3.srv.g j) ∧ ((18 : Nat) = (18 : Nat) ∧ T.l3.loc.n = T.l3.loc.n ∧ ∀ (j : Nat), j < T.l3.loc.n → T.l3.loc.g j = T.l3.loc.g j) ∧ True ∧ True ∧ True ∧ True ∧ T.g = T.g ∧ True)) ∧ True
theorem getV_eq (T : LTab) (i : Int) (e : TypeId) (ap : Bool) : getV T i e ap = (funT cx0 Tryd.f20 (mkSc getE (bodyOf Tryd.f20)) e ap (tabX T) [XI i] (.tup [.agg (lnkX (getK T i)), XB (gotB T i)]) (tabX T)) := by kernel_rfl
def elV (a b : Sq Int) : Prop :=
 (((↑a.n : Int) != (↑b.n : Int)) = true → false = elQ a b) ∧ (((↑a.n : Int) != (↑b.n : Int)) = false → (∃ (x : (elI a b).σ), (x.i ≤ a.n ∧ a.n = b.n ∧ elN a.g b.g x.i = true) ∧ true = true ∧ ((XV.fz a.n 1 fun (i : Nat) => [XI (a.g i)]) = XV.fz a.n 1 fun (i : Nat) => [XI (a.g i)]) ∧ ((XV.fz b.n 1 fun (i : Nat) => [XI (b.g i)]) = XV.fz b.n 1 fun (i : Nat) => [XI (b.g i)]) ∧ (↑a.n : Int) = (↑a.n : Int) ∧ (0 : Int) = (↑x.i : Int) ∧ True) ∧ ∀ (x : IL), x.i ≤ a.n ∧ a.n = b.n ∧ elN a.g b.g x.i = true → (decide ((↑x.i : Int) < (↑a.n : Int)) = true → (0 : Int) ≤ (↑x.i : Int) ∧ (↑x.i : Int) < (↑a.n : Int) ∧ (0 : Int) ≤ (↑x.i : Int) ∧ (↑x.i : Int) < (↑b.n : Int) ∧ ((a.g (↑x.i : Int).toNat != b.g (↑x.i : Int).toNat) = true → false = elQ a b) ∧ ((a.g (↑x.i : Int).toNat != b.g (↑x.i : Int).toNat) = false → in64 ((↑x.i : Int) + (1 : Int)) ∧ ∃ (x' : (elI a b).σ), (x'.i ≤ a.n ∧ a.n = b.n ∧ elN a.g b.g x'.i = true) ∧ a.n - x'.i < a.n - x.i ∧ true = true ∧ ((XV.fz a.n 1 fun (i : Nat) => [XI (a.g i)]) = XV.fz a.n 1 fun (i : Nat) => [XI (a.g i)]) ∧ ((XV.fz b.n 1 fun (i : Nat) => [XI (b.g i)]) = XV.fz b.n 1 fun (i : Nat) => [XI (b.g i)]) ∧ (↑a.n : Int) = (↑a.n : Int) ∧ (↑x.i : Int) + (1 : Int) = (↑x'.i : Int) ∧ True)) ∧ (decide ((↑x.i : Int) < (↑a.n : Int)) = false → true = elQ a b))
theorem elV_eq (a b : Sq Int) : elV a b = (funC cx0 Tryd.f22 (mkSc (elE a b) (bodyOf Tryd.f22)) [.fz a.n 1 fun i => [XI (a.g i)], .fz b.n 1 fun i => [XI (b.g i)]] (XB (elQ a b))) := by kernel_rfl
end Go.Proofs.YtaglpckihegmoaaDoorAv
namespace Go.Proofs.YtaglpckihegmoaaDoorAv
open Go Go.RowKit
def tbS (q : Sq Lnk) : Nat → LTab
 | 0 => tab0
 | i + 1 => setTb (tbS q i) i (q.g i)
def wnN (q : Sq Lnk) (gone : Int) : Nat → Nat
 | 0 => 0
 | i + 1 => if (i : Int) = gone then wnN q gone i else wnN q gone i + (q.g i).loc.n
def wnG (q : Sq Lnk) (gone : Int) : Nat → Nat → List XV
 | 0 => fun _ => []
 | i + 1 => if (i : Int) = gone then wnG q gone i else catF (wnN q gone i) (wnG q gone i) (q.g i).loc.g
def TL (q : Sq Lnk) (gone : Int) : LTab := remTb (tbS q q.n) gone
end Go.Proofs.YtaglpckihegmoaaDoorAv
namespace Go.Proofs.YtaglpckihegmoaaDoorAv
open Go Go.RowKit
def setK (q : Sq Lnk) (i j : Nat) : Lnk := if j < i then aliveK (q.g j) (j + 1) else zLnk
def tbE (q : Sq Lnk) (i : Nat) : LTab := ⟨setK q i 0, setK q i 1, setK q i 2, setK q i 3, i⟩
theorem tbE_put (q : Sq Lnk) {i : Nat} (hi : i < 4) : putT (tbE q i) i (aliveK (q.g i) (i + 1)) (i + 1) = tbE q (i + 1) := by
 match i, hi with
 | 0, _ => rfl
 | 1, _ => rfl
 | 2, _ => rfl
 | 3, _ => rfl
 | i + 4, h => omega
theorem inB_nat {i : Nat} (h : i < 4) : inB i = true := by
 rw [inB, decide_eq_true (show (0 : Int) ≤ i by omega), decide_eq_true (show (i : Int) < 4 by omega)]
 rfl
theorem tbS_eq (q : Sq Lnk) : ∀ i, i ≤ 4 → (∀ j, j < i → rgtK (q.g j) = true) → tbS q i = tbE q i
 | 0, _, _ => rfl
 | i + 1, hi, h => by
  rw [tbS, tbS_eq q i (by omega) fun j hj => h j (by omega), setTb_in _ (inB_nat (by omega)) (h i (by omega))]
  exact tbE_put q (by omega)
def lefK (q : Sq Lnk) (gone : Int) (j : Nat) : Lnk := if j < q.n ∧ (j : Int) ≠ gone then aliveK (q.g j) (j + 1) else zLnk
theorem set_left {q : Sq Lnk} {gone : Int} {j : Nat} (h : (j : Int) ≠ gone) : setK q q.n j = lefK q gone j := by
 unfold setK lefK
 by_cases k : j < q.n
 ·rw [if_pos k, if_pos ⟨k, h⟩]
 ·rw [if_neg k, if_neg fun c => k c.1]
theorem left_gone {q : Sq Lnk} {gone : Int} {j : Nat} (h : (j : Int) = gone) : lefK q gone j = zLnk := if_neg fun c => c.2 h
theorem tbE_at (q : Sq Lnk) (i : Nat) {j : Nat} (h : j < 4) : (tbE q i).at j = setK q i j := by
 match j, h with
 | 0, _ | 1, _ | 2, _ | 3, _ => rfl
 | j + 4, h => omega
theorem tab_congr {a b c d a' b' c' d' : Lnk} {g : Int} (h0 : a = a') (h1 : b = b') (h2 : c = c') (h3 : d = d') : (⟨a, b, c, d, g⟩ : LTab) = ⟨a', b', c', d', g⟩ := by rw [h0, h1, h2, h3]
theorem lefT (q : Sq Lnk) (gone : Int) : remTb (tbE q q.n) gone = ⟨lefK q gone 0, lefK q gone 1, lefK q gone 2, lefK q gone 3, q.n⟩ := by
 cases hb : inB gone with
 | false =>
  have hg : ¬ (0 ≤ gone ∧ gone < 4) := fun k => by
   rw [inB, decide_eq_true k.1, decide_eq_true k.2] at hb
   cases hb
  rw [(rm_no (by rw [gotB, hb]; rfl)).1, tbE, set_left (gone := gone) (j := 0) (by omega), set_left (gone := gone) (j := 1) (by omega), set_left (gone := gone) (j := 2) (by omega), set_left (gone := gone) (j := 3) (by omega)]
 | true =>
  have hg : 0 ≤ gone ∧ gone < 4 := by
   rw [inB, Bool.and_eq_true] at hb
   exact ⟨of_decide_eq_true hb.1, of_decide_eq_true hb.2⟩
  obtain ⟨k, rfl⟩ : ∃ k : Nat, gone = k := ⟨gone.toNat, by omega⟩
  have hk : k < 4 := by omega
  have hgot : gotB (tbE q q.n) k = (setK q q.n k).live := by
   rw [gotB, hb, Int.toNat_natCast, tbE_at q _ hk]
   rfl
  have hz : ∀ j : Nat, j ≠ k → setK q q.n j = lefK q k j := fun j h => set_left (by omega)
  have hs : lefK q k k = zLnk := left_gone rfl
  by_cases hn : k < q.n
  ·have hl : (setK q q.n k).live = true := by rw [setK, if_pos hn]; rfl
   rw [(rm_yes (hgot.trans hl)).1]
   match k, hk, hz, hs with
   | 0, _, hz, hs => exact tab_congr hs.symm (hz 1 (by decide)) (hz 2 (by decide)) (hz 3 (by decide))
   | 1, _, hz, hs => exact tab_congr (hz 0 (by decide)) hs.symm (hz 2 (by decide)) (hz 3 (by decide))
   | 2, _, hz, hs => exact tab_congr (hz 0 (by decide)) (hz 1 (by decide)) hs.symm (hz 3 (by decide))
   | 3, _, hz, hs => exact tab_congr (hz 0 (by decide)) (hz 1 (by decide)) (hz 2 (by decide)) hs.symm
   | k + 4, h, _, _ => omega
  ·have e : setK q q.n k = zLnk := if_neg hn
   have hl : (setK q q.n k).live = false := by rw [e]; rfl
   have ha : ∀ j : Nat, setK q q.n j = lefK q k j := fun j => by
    by_cases h : j = k
    ·rw [h, e, hs]
    ·exact hz j h
   rw [(rm_no (hgot.trans hl)).1, tbE, ha, ha, ha, ha]
def cN (M : Nat → Lnk) : Nat → Nat
 | 0 => 0
 | i + 1 => cN M i + (M i).loc.n
def cG (M : Nat → Lnk) : Nat → Nat → List XV
 | 0 => fun _ => []
 | i + 1 => catF (cN M i) (cG M i) (M i).loc.g
theorem catF_lt {n j : Nat} {f g : Nat → List XV} (h : j < n) : catF n f g j = f j := by
 unfold catF
 rw [bltN, decide_eq_true h]; rfl
theorem catF_ge {n j : Nat} {f g : Nat → List XV} (h : ¬ j < n) : catF n f g j = g (j - n) := by
 unfold catF
 rw [bltN, decide_eq_false h]; rfl
theorem c_awaited (q : Sq Lnk) (gone : Int) : ∀ i, i ≤ q.n → wnN q gone i = cN (lefK q gone) i ∧ ∀ j, j < cN (lefK q gone) i → wnG q gone i j = cG (lefK q gone) i j
 | 0, _ => ⟨rfl, fun j _ => rfl⟩
 | i + 1, hi => by
  obtain ⟨h1, h2⟩ := c_awaited q gone i (by omega)
  by_cases e : (i : Int) = gone
  ·have hz := left_gone (q := q) e
   have hn : cN (lefK q gone) (i + 1) = cN (lefK q gone) i := by rw [cN, hz]; rfl
   refine ⟨by rw [wnN, if_pos e, hn, h1], fun j hj => ?_⟩
   rw [hn] at hj
   rw [wnG, if_pos e, h2 j hj, cG, catF_lt hj]
  ·have hz : lefK q gone i = aliveK (q.g i) (i + 1) := if_pos ⟨by omega, e⟩
   refine ⟨by rw [wnN, if_neg e, cN, hz, h1]; rfl, fun j hj => ?_⟩
   rw [wnG, if_neg e, cG, h1]
   by_cases k : j < cN (lefK q gone) i
   ·rw [catF_lt k, catF_lt k, h2 j k]
   ·rw [catF_ge k, catF_ge k, hz]
    rfl
theorem c_rest (q : Sq Lnk) (gone : Int) : ∀ d, cN (lefK q gone) (q.n + d) = cN (lefK q gone) q.n ∧ ∀ j, j < cN (lefK q gone) q.n → cG (lefK q gone) (q.n + d) j = cG (lefK q gone) q.n j
 | 0 => ⟨rfl, fun _ _ => rfl⟩
 | d + 1 => by
  obtain ⟨h1, h2⟩ := c_rest q gone d
  have hz : lefK q gone (q.n + d) = zLnk := if_neg fun c => by omega
  refine ⟨by rw [← Nat.add_assoc, cN, hz, h1]; rfl, fun j hj => ?_⟩
  rw [← Nat.add_assoc, cG, catF_lt (by rw [h1]; exact hj), h2 j hj]
theorem c_typed {M : Nat → Lnk} (h : ∀ k j, j < (M k).loc.n → ∃ c, (M k).loc.g j = lclX c) : ∀ i j, j < cN M i → ∃ c, cG M i j = lclX c
 | 0, j, hj => absurd hj (Nat.not_lt_zero _)
 | i + 1, j, hj => by
  rw [cG]
  by_cases k : j < cN M i
  ·rw [catF_lt k]; exact c_typed h i j k
  ·rw [catF_ge k]; exact h i _ (by rw [cN] at hj; omega)
theorem cN_le {M : Nat → Lnk} (h : ∀ k, (M k).loc.n ≤ 4) : ∀ i, cN M i ≤ 4 * i
 | 0 => Nat.le_refl _
 | i + 1 => by
  have := cN_le h i
  have := h i
  rw [cN]
  omega
structure Lok (q : Sq Lnk) : Prop where
 n : q.n ≤ 4
 r : ∀ j, j < q.n → rgtK (q.g j) = true ∧ shtK (q.g j) < 2000
 c : ∀ j, j < q.n → ∃ c : Nat → Lcl, (q.g j).loc.g = fun k => lclX (c k)
theorem loc4 {k : Lnk} (h : rgtK k = true) : k.loc.n ≤ 4 := by
 have := (Bool.and_eq_true_iff.1 h).1
 rw [Bool.and_eq_true, Bool.and_eq_true] at this
 exact of_decide_eq_true this.2.2
theorem Lok.four {q : Sq Lnk} (h : Lok q) (gone : Int) (k : Nat) : (lefK q gone k).loc.n ≤ 4 := by
 unfold lefK
 split
 ·rename_i c; exact loc4 (h.r k c.1).1
 ·exact Nat.zero_le _
theorem Lok.typed {q : Sq Lnk} (h : Lok q) (gone : Int) (k j : Nat) (hj : j < (lefK q gone k).loc.n) : ∃ c, (lefK q gone k).loc.g j = lclX c := by
 unfold lefK at hj ⊢
 split
 ·rename_i c
  obtain ⟨f, hf⟩ := h.c k c.1
  exact ⟨f j, congrFun hf j⟩
 ·rename_i c; rw [if_neg c] at hj; exact absurd hj (Nat.not_lt_zero _)
theorem Lok.T {q : Sq Lnk} (h : Lok q) (gone : Int) : TL q gone = ⟨lefK q gone 0, lefK q gone 1, lefK q gone 2, lefK q gone 3, q.n⟩ := by
 unfold TL
 rw [tbS_eq q q.n h.n fun j hj => (h.r j hj).1, lefT]
theorem Lok.N {q : Sq Lnk} (h : Lok q) (gone : Int) : locN (TL q gone) = cN (lefK q gone) 4 ∧ locG (TL q gone) = cG (lefK q gone) 4 := by
 rw [h.T gone]
 exact ⟨rfl, rfl⟩
theorem Lok.all {q : Sq Lnk} (h : Lok q) (gone : Int) : locN (TL q gone) ≤ 16 ∧ locN (TL q gone) = wnN q gone q.n ∧ (∀ j, j < locN (TL q gone) → wnG q gone q.n j = lclX (locH (TL q gone) j)) ∧ locOk (TL q gone) := by
 obtain ⟨n1, n2⟩ := h.N gone
 obtain ⟨a1, a2⟩ := c_awaited q gone q.n (Nat.le_refl _)
 obtain ⟨r1, r2⟩ := c_rest q gone (4 - q.n)
 have h4 : q.n + (4 - q.n) = 4 := by have := h.n; omega
 rw [h4] at r1 r2
 have ty : ∀ j, j < locN (TL q gone) → locG (TL q gone) j = lclX (locH (TL q gone) j) := fun j hj => by
  unfold locH
  rw [n2]
  obtain ⟨c, hc⟩ := c_typed (h.typed gone) 4 j (n1 ▸ hj)
  rw [hc, lclD_X]
 refine ⟨by rw [n1]; exact cN_le (h.four gone) 4, by rw [n1, r1, a1], fun j hj => ?_, ?_, ty⟩
 ·rw [← ty j hj, n2]
  have hj' : j < cN (lefK q gone) q.n := by rw [← r1, ← n1]; exact hj
  rw [a2 j hj', r2 j hj']
 ·rw [h.T gone]
  exact ⟨h.four gone 0, h.four gone 1, h.four gone 2, h.four gone 3⟩
def lnkOf (l : List XV) : Lnk := ⟨boolD (xget l 0), intD (xget l 1), match xget l 2 with
 | .fz n _ f => ⟨n, fun j => strD (xget (f j) 0)⟩
 | _ => ⟨0, fun _ => ⟨#[]⟩⟩, boolD (xget l 3), boolD (xget l 4), match xget l 5 with
 | .fz n _ f => ⟨n, f⟩
 | _ => ⟨0, fun _ => []⟩, match xget l 6 with
 | .fz n _ f => ⟨n, f⟩
 | _ => ⟨0, fun _ => []⟩⟩
end Go.Proofs.YtaglpckihegmoaaDoorAv
namespace Go.Proofs.YtaglpckihegmoaaDoorAv
open Go Go.RowKit
theorem litN_le (q : Sq Cll) : ∀ n j, j ≤ n → litN q n = true → litN q j = true
  | 0, j, h, k => by obtain rfl : j = 0 := by omega
                     exact k
  | n + 1, j, h, k => by
    by_cases e : j = n + 1
    · rw [e]; exact k
    · rw [litN, Bool.and_eq_true] at k
      exact litN_le q n j (by omega) k.1
theorem lit_v (q : Sq Cll) (h1 : ∀ j, j < q.n → (q.g j).k.dom.n ≤ 4611686018427387904) : litV q := by
 unfold litV
 refine ⟨fun h => ?_, fun h => ⟨⟨⟨0⟩, ⟨Nat.zero_le _, ?_, rfl⟩, by and_intros <;> first | rfl | trivial⟩, ?_⟩⟩
 ·have h := of_decide_eq_true h
  rw [litB, decide_eq_false (by omega), Bool.false_and]
 ·have h := of_decide_eq_false h
  omega
 ·rintro ⟨i⟩ ⟨hi, hq, hr⟩
  have hi : i ≤ q.n := hi
  have hr : litN q i = true := hr
  dsimp only
  rw [Int.toNat_natCast]
  refine ⟨fun hl => ?_, fun hl => ?_⟩
  ·have hl : i < q.n := by
    have := of_decide_eq_true hl
    omega
   refine ⟨by omega, by omega, fun _ _ => rfl, h1 i hl, fun hs => ?_, fun hs => ⟨by unfold in64; omega, ⟨i + 1⟩, ⟨hl, hq, ?_⟩, by show _ - (i + 1) < _ - i; omega, by and_intros <;> first | rfl | trivial⟩⟩
   ·rw [Bool.not_eq_true', decide_eq_false_iff_not] at hs
    cases hb : litB q with
    | false => rfl
    | true =>
     rw [litB, Bool.and_eq_true] at hb
     have := litN_le q q.n (i + 1) hl hb.2
     rw [litN, Bool.and_eq_true] at this
     exact absurd (of_decide_eq_true this.2) hs
   ·rw [Bool.not_eq_false'] at hs
    show litN q (i + 1) = true
    rw [litN, hr, hs]
    rfl
  ·obtain rfl : i = q.n := by
    have := of_decide_eq_false hl
    omega
   rw [litB, decide_eq_true hq, hr]
   rfl
theorem got_at {T : LTab} {i : Int} {b : Bool} (h : gotB T i = b) : getK T i = if b = true then T.at i.toNat else zLnk := by
 unfold getK
 rw [h]
theorem get_v (T : LTab) (i : Int) (e : TypeId) (ap : Bool) (hi : inB i = true) : getV T i e ap := by
 have hi : 0 ≤ i ∧ i < 4 := by
  rw [inB, Bool.and_eq_true] at hi
  exact ⟨of_decide_eq_true hi.1, of_decide_eq_true hi.2⟩
 unfold getV
 refine ⟨by omega, fun e0 => ?_, fun e0 => ?_, fun e0 => ?_, fun e0 => ?_, trivial⟩
 all_goals subst e0
 ·refine ⟨by decide, by decide, fun h => ?_, fun h => ⟨by decide, by decide, ?_⟩⟩
  ·have k : gotB T 0 = false := no_of h rfl
   rw [got_at k, k]
   and_intros <;> first | rfl | trivial | exact fun _ _ => rfl
  ·have k : gotB T 0 = true := yes_of h rfl
   rw [got_at k, k]
   and_intros <;> first | rfl | trivial | exact fun _ _ => rfl
 ·refine ⟨by decide, by decide, fun h => ?_, fun h => ⟨by decide, by decide, ?_⟩⟩
  ·have k : gotB T 1 = false := no_of h rfl
   rw [got_at k, k]
   and_intros <;> first | rfl | trivial | exact fun _ _ => rfl
  ·have k : gotB T 1 = true := yes_of h rfl
   rw [got_at k, k]
   and_intros <;> first | rfl | trivial | exact fun _ _ => rfl
 ·refine ⟨by decide, by decide, fun h => ?_, fun h => ⟨by decide, by decide, ?_⟩⟩
  ·have k : gotB T 2 = false := no_of h rfl
   rw [got_at k, k]
   and_intros <;> first | rfl | trivial | exact fun _ _ => rfl
  ·have k : gotB T 2 = true := yes_of h rfl
   rw [got_at k, k]
   and_intros <;> first | rfl | trivial | exact fun _ _ => rfl
 ·refine ⟨by decide, by decide, fun h => ?_, fun h => ⟨by decide, by decide, ?_⟩⟩
  ·have k : gotB T 3 = false := no_of h rfl
   rw [got_at k, k]
   and_intros <;> first | rfl | trivial | exact fun _ _ => rfl
  ·have k : gotB T 3 = true := yes_of h rfl
   rw [got_at k, k]
   and_intros <;> first | rfl | trivial | exact fun _ _ => rfl
theorem elN_le (f g : Nat → Int) : ∀ n j, j ≤ n → elN f g n = true → elN f g j = true
  | 0, j, h, k => by obtain rfl : j = 0 := by omega
                     exact k
  | n + 1, j, h, k => by
    by_cases e : j = n + 1
    · rw [e]; exact k
    · rw [elN, Bool.and_eq_true] at k
      exact elN_le f g n j (by omega) k.1
theorem el_v (a b : Sq Int) (hn : a.n ≤ 4611686018427387904) : elV a b := by
 unfold elV
 refine ⟨fun h => ?_, fun h => ⟨⟨⟨0⟩, ⟨Nat.zero_le _, ?_, rfl⟩, by and_intros <;> first | rfl | trivial⟩, ?_⟩⟩
 ·have h : ¬ a.n = b.n := fun e => by rw [e] at h; simp at h
  rw [elQ, decide_eq_false h, Bool.false_and]
 ·simp at h
  omega
 ·rintro ⟨i⟩ ⟨hi, hab, hr⟩
  have hi : i ≤ a.n := hi
  have hr : elN a.g b.g i = true := hr
  dsimp only
  rw [Int.toNat_natCast]
  refine ⟨fun hl => ?_, fun hl => ?_⟩
  ·have hl : i < a.n := by
    have := of_decide_eq_true hl
    omega
   refine ⟨by omega, by omega, by omega, by omega, fun hs => ?_, fun hs => ⟨by unfold in64; omega, ⟨i + 1⟩, ⟨hl, hab, ?_⟩, by show _ - (i + 1) < _ - i; omega, by and_intros <;> first | rfl | trivial⟩⟩
   ·have hs : ¬ a.g i = b.g i := fun e => by rw [e] at hs; simp at hs
    cases hb : elQ a b with
    | false => rfl
    | true =>
     rw [elQ, Bool.and_eq_true] at hb
     have := elN_le a.g b.g a.n (i + 1) hl hb.2
     rw [elN, Bool.and_eq_true] at this
     exact absurd (of_decide_eq_true this.2) hs
   ·have hs : a.g i = b.g i := by simpa using hs
    show elN a.g b.g (i + 1) = true
    rw [elN, hr, decide_eq_true hs]
    rfl
  ·obtain rfl : i = a.n := by
    have := of_decide_eq_false hl
    omega
   rw [elQ, decide_eq_true hab, hr]
   rfl
theorem elN_self (f : Nat → Int) : ∀ n, elN f f n = true
 | 0 => rfl
 | n + 1 => by rw [elN, elN_self f n, decide_eq_true rfl]; rfl
theorem elQ_self (a : Sq Int) : elQ a a = true := by rw [elQ, decide_eq_true rfl, elN_self]; rfl
def cllOf (l : List XV) : Cll := ⟨intD (xget l 0), intD (xget l 1), lnkOf (l.drop 2)⟩
def dClls : Dc (Sq Cll) := dSl 9 cllOf cllX ⟨0, 0, zLnk⟩
theorem dClls_ok : DcOk dClls := dSl_ok
def litC : CT := C1 dClls (fun q => [∀ j, j < q.n → (q.g j).k.dom.n ≤ 4611686018427387904]) fun q => XB (litB q)
theorem cxN_ok : cxN.ok Tryd.prog := cx0_ok.addC sh_ok
theorem lit_ok : CTok Tryd.prog 18 litC := C1_ok cxN_ok Tryd.func18 rfl (by decide) dClls_ok (by kernel_rfl) (fun _ => rfl) fun q hc => exv (litV_eq q) (lit_v q (hc _ (.head _)))
def getC : TT := TT1 dTab dInt (fun _ i => [inB i = true]) (fun T i => .tup [.agg (lnkX (getK T i)), XB (gotB T i)]) fun T _ => T
theorem get_ok : ITok Tryd.prog 20 (itT getC) := TT1_ok cx0_ok Tryd.func20 rfl (by decide) dTab_ok dInt_eq.ok (by kernel_rfl) (fun _ _ => rfl) fun T i hc => exvT (fun e ap => getV_eq T i e ap) fun e ap => get_v T i e ap (hc _ (.head _))
def dIts : Dc (Sq Int) := dSl 1 (fun l => intD (xget l 0)) (fun i => [XI i]) 0
theorem dIts_ok : DcOk dIts := dSl_ok
def elC : CT := C2 dIts dIts (fun a _ => [a.n ≤ 4611686018427387904]) fun a b => XB (elQ a b)
theorem el_ok : CTok Tryd.prog 22 elC := C2_ok cx0_ok Tryd.func22 rfl (by decide) dIts_ok dIts_ok (by kernel_rfl) (fun _ _ => rfl) fun a b hc => exv (elV_eq a b) (el_v a b (hc _ (.head _)))
end Go.Proofs.YtaglpckihegmoaaDoorAv
namespace Go.Proofs.YtaglpckihegmoaaDoorAv
open Go Go.RowKit
def ngB (k : Lnk) (s : ByteArray) : Bool := k.live && (k.ll && decide (cntB s ptT = 0))
def ngL (T : LTab) (s : ByteArray) : Nat → List Int
 | 0 => []
 | k + 1 => if ngB (T.at k) s = true then ngL T s k ++ [(k : Int)] else ngL T s k
def ngC : TT := TT1 dTab dStr (fun _ s => [s.size ≤ 1000000]) (fun T s => intsF (ngL T s 4)) fun T _ => T
def setC2 : TT := TT2 dTab dInt dLk (fun T i k => [k.dom.n ≤ 4611686018427387904, -4611686018427387904 ≤ T.g ∧ T.g ≤ 4611686018427387904]) (fun T i k => XI (setN i k)) fun T i k => setTb T i k
def clS (q : Sq Cll) : Nat → LTab
 | 0 => tab0
 | i + 1 => setTb (clS q i) (q.g i).n (q.g i).k
def cxQ : Cx := { cx0 with C := [(9, C0 [] (XB true)), (18, litC), (22, elC), (21, dotC)], L := [(12, itNew 70 newM), (13, itT setC2), (20, itT getC), (19, itT ngC)] }
def qI (q : Sq Cll) (n : ByteArray) : Inv where
 σ := IL
 S := fun x => ⟨[(1, XT n), (5, .ptr 0 0 0 0), (24, .fz q.n 9 fun i => cllX (q.g i)), (25, XI q.n), (26, XI x.i)], [(0, .one 70 true (tabX (clS q x.i)))], 1, false, []⟩
 inv := fun x => x.i ≤ q.n ∧ q.n ≤ 60
 μ := fun x => q.n - x.i
def qA (q : Sq Cll) (n : ByteArray) : Inv where
 σ := IL
 S := fun _ => ⟨[(1, XT n), (5, .ptr 0 0 0 0)], [(0, .one 70 true (tabX (clS q q.n)))], 1, false, []⟩
 inv := fun _ => True
 μ := fun _ => 0
def qJ (q : Sq Cll) (n : ByteArray) : Inv where
 σ := IL
 S := fun x => ⟨[(1, XT n), (5, .ptr 0 0 0 0), (8, intsF (ngL (clS q q.n) n 4)), (9, .sl 1 1 0 (lenI (ngL (clS q q.n) n x.i))), (40, XI x.i)], [(0, .one 70 true (tabX (clS q q.n))), (1, .vec 3 true (lenI (ngL (clS q q.n) n x.i)) 1 fun j => [XI (getI (ngL (clS q q.n) n x.i) j)])], 2, false, []⟩
 inv := fun x => x.i ≤ 4
 μ := fun x => 4 - x.i
def qE (q : Sq Cll) (n : ByteArray) : Env := { loops := [(0, qI q n), (2, qJ q n)], cuts := [(11, qA q n)], own := [(13, [(9, 3, 1)])], frz := [(20, [9])], fork := [20] }
def nbV (q : Sq Cll) (n : ByteArray) : Prop :=
 ((!true) = true → false = true) ∧ ((!true) = false → (∀ (i : Nat), i < q.n → [XI ((q.g i).kind), XI ((q.g i).n), XB ((q.g i).k.live), XI ((q.g i).k.gen), XV.fz (q.g i).k.dom.n 1 fun (j : Nat) => [XT ((q.g i).k.dom.g j)], XB ((q.g i).k.dft), XB ((q.g i).k.ll), XV.fz (q.g i).k.srv.n 16 (q.g i).k.srv.g, XV.fz (q.g i).k.loc.n 18 (q.g i).k.loc.g] = [XI ((q.g i).kind), XI ((q.g i).n), XB ((q.g i).k.live), XI ((q.g i).k.gen), XV.fz (q.g i).k.dom.n 1 fun (j : Nat) => [XT ((q.g i).k.dom.g j)], XB ((q.g i).k.dft), XB ((q.g i).k.ll), XV.fz (q.g i).k.srv.n 16 (q.g i).k.srv.g, XV.fz (q.g i).k.loc.n 18 (q.g i).k.loc.g]) ∧ (∀ (j : Nat), j < q.n → (q.g j).k.dom.n ≤ (4611686018427387904 : Nat)) ∧ ((!litB q || decide ((↑n.size : Int) > (300 : Int))) = true → true = true) ∧ ((!litB q || decide ((↑n.size : Int) > (300 : Int))) = false → ((∃ (x : (qI q n).σ), (x.i ≤ q.n ∧ q.n ≤ (60 : Nat)) ∧ true = true ∧ n = n ∧ XV.ptr 0 0 0 0 = XV.ptr 0 0 0 0 ∧ ((XV.fz q.n 9 fun (i : Nat) => [XI ((q.g i).kind), XI ((q.g i).n), XB ((q.g i).k.live), XI ((q.g i).k.gen), XV.fz (q.g i).k.dom.n 1 fun (j : Nat) => [XT ((q.g i).k.dom.g j)], XB ((q.g i).k.dft), XB ((q.g i).k.ll), XV.fz (q.g i).k.srv.n 16 (q.g i).k.srv.g, XV.fz (q.g i).k.loc.n 18 (q.g i).k.loc.g]) = XV.fz q.n 9 fun (i : Nat) => [XI ((q.g i).kind), XI ((q.g i).n), XB ((q.g i).k.live), XI ((q.g i).k.gen), XV.fz (q.g i).k.dom.n 1 fun (j : Nat) => [XT ((q.g i).k.dom.g j)], XB ((q.g i).k.dft), XB ((q.g i).k.ll), XV.fz (q.g i).k.srv.n 16 (q.g i).k.srv.g, XV.fz (q.g i).k.loc.n 18 (q.g i).k.loc.g]) ∧ (↑q.n : Int) = (↑q.n : Int) ∧ (0 : Int) = (↑x.i : Int) ∧ (((70 : TypeId) = (70 : TypeId) ∧ true = true) ∧ false = (clS q x.i).l0.live ∧ (0 : Int) = (clS q x.i).l0.gen ∧ ((XV.fz 0 1 fun (j : Nat) => [XT (⟨#[]⟩)]) = XV.fz (clS q x.i).l0.dom.n 1 fun (j : Nat) => [XT ((clS q x.i).l0.dom.g j)]) ∧ false = (clS q x.i).l0.dft ∧ false = (clS q x.i).l0.ll ∧ (XV.fz 0 16 fun (x : Nat) => []) = XV.fz (clS q x.i).l0.srv.n 16 (clS q x.i).l0.srv.g ∧ (XV.fz 0 18 fun (x : Nat) => []) = XV.fz (clS q x.i).l0.loc.n 18 (clS q x.i).l0.loc.g ∧ false = (clS q x.i).l1.live ∧ (0 : Int) = (clS q x.i).l1.gen ∧ ((XV.fz 0 1 fun (j : Nat) => [XT (⟨#[]⟩)]) = XV.fz (clS q x.i).l1.dom.n 1 fun (j : Nat) => [XT ((clS q x.i).l1.dom.g j)]) ∧ false = (clS q x.i).l1.dft ∧ false = (clS q x.i).l1.ll ∧ (XV.fz 0 16 fun (x : Nat) => []) = XV.fz (clS q x.i).l1.srv.n 16 (clS q x.i).l1.srv.g ∧ (XV.fz 0 18 fun (x : Nat) => []) = XV.fz (clS q x.i).l1.loc.n 18 (clS q x.i).l1.loc.g ∧ false = (clS q x.i).l2.live ∧ (0 : Int) = (clS q x.i).l2.gen ∧ ((XV.fz 0 1 fun (j : Nat) => [XT (⟨#[]⟩)]) = XV.fz (clS q x.i).l2.dom.n 1 fun (j : Nat) => [XT ((clS q x.i).l2.dom.g j)]) ∧ false = (clS q x.i).l2.dft ∧ false = (clS q x.i).l2.ll ∧ (XV.fz 0 16 fun (x : Nat) => []) = XV.fz (clS q x.i).l2.srv.n 16 (clS q x.i).l2.srv.g ∧ (XV.fz 0 18 fun (x : Nat) => []) = XV.fz (clS q x.i).l2.loc.n 18 (clS q x.i).l2.loc.g ∧ false = (clS q x.i).l3.live ∧ (0 : Int) = (clS q x.i).l3.gen ∧ ((XV.fz 0 1 fun (j : Nat) => [XT (⟨#[]⟩)]) = XV.fz (clS q x.i).l3.dom.n 1 fun (j : Nat) => [XT ((clS q x.i).l3.dom.g j)]) ∧ false = (clS q x.i).l3.dft ∧ false = (clS q x.i).l3.ll ∧ (XV.fz 0 16 fun (x : Nat) => []) = XV.fz (clS q x.i).l3.srv.n 16 (clS q x.i).l3.srv.g ∧ (XV.fz 0 18 fun (x : Nat) => []) = XV.fz (clS q x.i).l3.loc.n 18 (clS q x.i).l3.loc.g ∧ XV.top = XV.top ∧ XV.top = XV.top ∧ XV.top = XV.top ∧ XV.top = XV.top ∧ tab0.g = (clS q x.i).g ∧ True) ∧ True) ∧ ∀ (x : IL), x.i ≤ q.n ∧ q.n ≤ (60 : Nat) → (decide ((↑x.i : Int) < (↑q.n : Int)) = true → (0 : Int) ≤ (↑x.i : Int) ∧ (↑x.i : Int) < (↑q.n : Int) ∧ (∀ (i : Nat), i < (clS q x.i).l0.dom.n → [XT ((clS q x.i).l0.dom.g i)] = [XT ((clS q x.i).l0.dom.g i)]) ∧ (∀ (i : Nat), i < (clS q x.i).l1.dom.n → [XT ((clS q x.i).l1.dom.g i)] = [XT ((clS q x.i).l1.dom.g i)]) ∧ (∀ (i : Nat), i < (clS q x.i).l2.dom.n → [XT ((clS q x.i).l2.dom.g i)] = [XT ((clS q x.i).l2.dom.g i)]) ∧ (∀ (i : Nat), i < (clS q x.i).l3.dom.n → [XT ((clS q x.i).l3.dom.g i)] = [XT ((clS q x.i).l3.dom.g i)]) ∧ (∀ (i : Nat), i < (q.g (↑x.i : Int).toNat).k.dom.n → [XT ((q.g (↑x.i : Int).toNat).k.dom.g i)] = [XT ((q.g (↑x.i : Int).toNat).k.dom.g i)]) ∧ (q.g (↑x.i : Int).toNat).k.dom.n ≤ (4611686018427387904 : Nat) ∧ ((-4611686018427387904 : Int) ≤ (clS q x.i).g ∧ (clS q x.i).g ≤ (4611686018427387904 : Int)) ∧ in64 ((↑x.i : Int) + (1 : Int)) ∧ ∃ (x' : (qI q n).σ), (x'.i ≤ q.n ∧ q.n ≤ (60 : Nat)) ∧ q.n - x'.i < q.n - x.i ∧ true = true ∧ n = n ∧ XV.ptr 0 0 0 0 = XV.ptr 0 0 0 0 ∧ ((XV.fz q.n 9 fun (i : Nat) => [XI ((q.g i).kind), XI ((q.g i).n), XB ((q.g i).k.live), XI ((q.g i).k.gen), XV.fz (q.g i).k.dom.n 1 fun (j : Nat) => [XT ((q.g i).k.dom.g j)], XB ((q.g i).k.dft), XB ((q.g i).k.ll), XV.fz (q.g i).k.srv.n 16 (q.g i).k.srv.g, XV.fz (q.g i).k.loc.n 18 (q.g i).k.loc.g]) = XV.fz q.n 9 fun (i : Nat) => [XI ((q.g i).kind), XI ((q.g i).n), XB ((q.g i).k.live), XI ((q.g i).k.gen), XV.fz (q.g i).k.dom.n 1 fun (j : Nat) => [XT ((q.g i).k.dom.g j)], XB ((q.g i).k.dft), XB ((q.g i).k.ll), XV.fz (q.g i).k.srv.n 16 (q.g i).k.srv.g, XV.fz (q.g i).k.loc.n 18 (q.g i).k.loc.g]) ∧ (↑q.n : Int) = (↑q.n : Int) ∧ (↑x.i : Int) + (1 : Int) = (↑x'.i : Int) ∧ (((70 : TypeId) = (70 : TypeId) ∧ true = true) ∧ (setTb (clS q x.i) (q.g (↑x.i : Int).toNat).n (q.g (↑x.i : Int).toNat).k).l0.live = (clS q x'.i).l0.live ∧ (setTb (clS q x.i) (q.g (↑x.i : Int).toNat).n (q.g (↑x.i : Int).toNat).k).l0.gen = (clS q x'.i).l0.gen ∧ ((XV.fz (setTb (clS q x.i) (q.g (↑x.i : Int).toNat).n (q.g (↑x.i : Int).toNat).k).l0.dom.n 1 fun (j : Nat) => [XT ((setTb (clS q x.i) (q.g (↑x.i : Int).toNat).n (q.g (↑x.i : Int).toNat).k).l0.dom.g j)]) = XV.fz (clS q x'.i).l0.dom.n 1 fun (j : Nat) => [XT ((clS q x'.i).l0.dom.g j)]) ∧ (setTb (clS q x.i) (q.g (↑x.i : Int).toNat).n (q.g (↑x.i : Int).toNat).k).l0.dft = (clS q x'.i).l0.dft ∧ (setTb (clS q x.i) (q.g (↑x.i : Int).toNat).n (q.g (↑x.i : Int).toNat).k).l0.ll = (clS q x'.i).l0.ll ∧ XV.fz (setTb (clS q x.i) (q.g (↑x.i : Int).toNat).n (q.g (↑x.i : Int).toNat).k).l0.srv.n 16 (setTb (clS q x.i) (q.g (↑x.i : Int).toNat).n (q.g (↑x.i : Int).toNat).k).l0.srv.g = XV.fz (clS q x'.i).l0.srv.n 16 (clS q x'.i).l0.srv.g ∧ XV.fz (setTb (clS q x.i) (q.g (↑x.i : Int).toNat).n (q.g (↑x.i : Int).toNat).k).l0.loc.n 18 (setTb (clS q x.i) (q.g (↑x.i : Int).toNat).n (q.g (↑x.i : Int).toNat).k).l0.loc.g = XV.fz (clS q x'.i).l0.loc.n 18 (clS q x'.i).l0.loc.g ∧ (setTb (clS q x.i) (q.g (↑x.i : Int).toNat).n (q.g (↑x.i : Int).toNat).k).l1.live = (clS q x'.i).l1.live ∧ (setTb (clS q x.i) (q.g (↑x.i : Int).toNat).n (q.g (↑x.i : Int).toNat).k).l1.gen = (clS q x'.i).l1.gen ∧ ((XV.fz (setTb (clS q x.i) (q.g (↑x.i : Int).toNat).n (q.g (↑x.i : Int).toNat).k).l1.dom.n 1 fun (j : Nat) => [XT ((setTb (clS q x.i) (q.g (↑x.i : Int).toNat).n (q.g (↑x.i : Int).toNat).k).l1.dom.g j)]) = XV.fz (clS q x'.i).l1.dom.n 1 fun (j : Nat) => [XT ((clS q x'.i).l1.dom.g j)]) ∧ (setTb (clS q x.i) (q.g (↑x.i : Int).toNat).n (q.g (↑x.i : Int).toNat).k).l1.dft = (clS q x'.i).l1.dft ∧ (setTb (clS q x.i) (q.g (↑x.i : Int).toNat).n (q.g (↑x.i : Int).toNat).k).l1.ll = (clS q x'.i).l1.ll ∧ XV.fz (setTb (clS q x.i) (q.g (↑x.i : Int).toNat).n (q.g (↑x.i : Int).toNat).k).l1.srv.n 16 (setTb (clS q x.i) (q.g (↑x.i : Int).toNat).n (q.g (↑x.i : Int).toNat).k).l1.srv.g = XV.fz (clS q x'.i).l1.srv.n 16 (clS q x'.i).l1.srv.g ∧ XV.fz (setTb (clS q x.i) (q.g (↑x.i : Int).toNat).n (q.g (↑x.i : Int).toNat).k).l1.loc.n 18 (setTb (clS q x.i) (q.g (↑x.i : Int).toNat).n (q.g (↑x.i : Int).toNat).k).l1.loc.g = XV.fz (clS q x'.i).l1.loc.n 18 (clS q x'.i).l1.loc.g ∧ (setTb (clS q x.i) (q.g (↑x.i : Int).toNat).n (q.g (↑x.i : Int).toNat).k).l2.live = (clS q x'.i).l2.live ∧ (setTb (clS q x.i) (q.g (↑x.i : Int).toNat).n (q.g (↑x.i : Int).toNat).k).l2.gen = (clS q x'.i).l2.gen ∧ ((XV.fz (setTb (clS q x.i) (q.g (↑x.i : Int).toNat).n (q.g (↑x.i : Int).toNat).k).l2.dom.n 1 fun (j : Nat) => [XT ((setTb (clS q x.i) (q.g (↑x.i : Int).toNat).n (q.g (↑x.i : Int).toNat).k).l2.dom.g j)]) = XV.fz (clS q x'.i).l2.dom.n 1 fun (j : Nat) => [XT ((clS q x'.i).l2.dom.g j)]) ∧ (setTb (clS q x.i) (q.g (↑x.i : Int).toNat).n (q.g (↑x.i : Int).toNat).k).l2.dft = (clS q x'.i).l2.dft ∧ (setTb (clS q x.i) (q.g (↑x.i : Int).toNat).n (q.g (↑x.i : Int).toNat).k).l2.ll = (clS q x'.i).l2.ll ∧ XV.fz (setTb (clS q x.i) (q.g (↑x.i : Int).toNat).n (q.g (↑x.i : Int).toNat).k).l2.srv.n 16 (setTb (clS q x.i) (q.g (↑x.i : Int).toNat).n (q.g (↑x.i : Int).toNat).k).l2.srv.g = XV.fz (clS q x'.i).l2.srv.n 16 (clS q x'.i).l2.srv.g ∧ XV.fz (setTb (clS q x.i) (q.g (↑x.i : Int).toNat).n (q.g (↑x.i : Int).toNat).k).l2.loc.n 18 (setTb (clS q x.i) (q.g (↑x.i : Int).toNat).n (q.g (↑x.i : Int).toNat).k).l2.loc.g = XV.fz (clS q x'.i).l2.loc.n 18 (clS q x'.i).l2.loc.g ∧ (setTb (clS q x.i) (q.g (↑x.i : Int).toNat).n (q.g (↑x.i : Int).toNat).k).l3.live = (clS q x'.i).l3.live ∧ (setTb (clS q x.i) (q.g (↑x.i : Int).toNat).n (q.g (↑x.i : Int).toNat).k).l3.gen = (clS q x'.i).l3.gen ∧ ((XV.fz (setTb (clS q x.i) (q.g (↑x.i : Int).toNat).n (q.g (↑x.i : Int).toNat).k).l3.dom.n 1 fun (j : Nat) => [XT ((setTb (clS q x.i) (q.g (↑x.i : Int).toNat).n (q.g (↑x.i : Int).toNat).k).l3.dom.g j)]) = XV.fz (clS q x'.i).l3.dom.n 1 fun (j : Nat) => [XT ((clS q x'.i).l3.dom.g j)]) ∧ (setTb (clS q x.i) (q.g (↑x.i : Int).toNat).n (q.g (↑x.i : Int).toNat).k).l3.dft = (clS q x'.i).l3.dft ∧ (setTb (clS q x.i) (q.g (↑x.i : Int).toNat).n (q.g (↑x.i : Int).toNat).k).l3.ll = (clS q x'.i).l3.ll ∧ XV.fz (setTb (clS q x.i) (q.g (↑x.i : Int).toNat).n (q.g (↑x.i : Int).toNat).k).l3.srv.n 16 (setTb (clS q x.i) (q.g (↑x.i : Int).toNat).n (q.g (↑x.i : Int).toNat).k).l3.srv.g = XV.fz (clS q x'.i).l3.srv.n 16 (clS q x'.i).l3.srv.g ∧ XV.fz (setTb (clS q x.i) (q.g (↑x.i : Int).toNat).n (q.g (↑x.i : Int).toNat).k).l3.loc.n 18 (setTb (clS q x.i) (q.g (↑x.i : Int).toNat).n (q.g (↑x.i : Int).toNat).k).l3.loc.g = XV.fz (clS q x'.i).l3.loc.n 18 (clS q x'.i).l3.loc.g ∧ XV.top = XV.top ∧ XV.top = XV.top ∧ XV.top = XV.top ∧ XV.top = XV.top ∧ (setTb (clS q x.i) (q.g (↑x.i : Int).toNat).n (q.g (↑x.i : Int).toNat).k).g = (clS q x'.i).g ∧ True) ∧ True) ∧ (decide ((↑x.i : Int) < (↑q.n : Int)) = false → ∃ (x_1 : (qA q n).σ), True ∧ true = true ∧ n = n ∧ XV.ptr 0 0 0 0 = XV.ptr 0 0 0 0 ∧ (((70 : TypeId) = (70 : TypeId) ∧ true = true) ∧ (clS q x.i).l0.live = (clS q q.n).l0.live ∧ (clS q x.i).l0.gen = (clS q q.n).l0.gen ∧ ((XV.fz (clS q x.i).l0.dom.n 1 fun (j : Nat) => [XT ((clS q x.i).l0.dom.g j)]) = XV.fz (clS q q.n).l0.dom.n 1 fun (j : Nat) => [XT ((clS q q.n).l0.dom.g j)]) ∧ (clS q x.i).l0.dft = (clS q q.n).l0.dft ∧ (clS q x.i).l0.ll = (clS q q.n).l0.ll ∧ XV.fz (clS q x.i).l0.srv.n 16 (clS q x.i).l0.srv.g = XV.fz (clS q q.n).l0.srv.n 16 (clS q q.n).l0.srv.g ∧ XV.fz (clS q x.i).l0.loc.n 18 (clS q x.i).l0.loc.g = XV.fz (clS q q.n).l0.loc.n 18 (clS q q.n).l0.loc.g ∧ (clS q x.i).l1.live = (clS q q.n).l1.live ∧ (clS q x.i).l1.gen = (clS q q.n).l1.gen ∧ ((XV.fz (clS q x.i).l1.dom.n 1 fun (j : Nat) => [XT ((clS q x.i).l1.dom.g j)]) = XV.fz (clS q q.n).l1.dom.n 1 fun (j : Nat) => [XT ((clS q q.n).l1.dom.g j)]) ∧ (clS q x.i).l1.dft = (clS q q.n).l1.dft ∧ (clS q x.i).l1.ll = (clS q q.n).l1.ll ∧ XV.fz (clS q x.i).l1.srv.n 16 (clS q x.i).l1.srv.g = XV.fz (clS q q.n).l1.srv.n 16 (clS q q.n).l1.srv.g ∧ XV.fz (clS q x.i).l1.loc.n 18 (clS q x.i).l1.loc.g = XV.fz (clS q q.n).l1.loc.n 18 (clS q q.n).l1.loc.g ∧ (clS q x.i).l2.live = (clS q q.n).l2.live ∧ (clS q x.i).l2.gen = (clS q q.n).l2.gen ∧ ((XV.fz (clS q x.i).l2.dom.n 1 fun (j : Nat) => [XT ((clS q x.i).l2.dom.g j)]) = XV.fz (clS q q.n).l2.dom.n 1 fun (j : Nat) => [XT ((clS q q.n).l2.dom.g j)]) ∧ (clS q x.i).l2.dft = (clS q q.n).l2.dft ∧ (clS q x.i).l2.ll = (clS q q.n).l2.ll ∧ XV.fz (clS q x.i).l2.srv.n 16 (clS q x.i).l2.srv.g = XV.fz (clS q q.n).l2.srv.n 16 (clS q q.n).l2.srv.g ∧ XV.fz (clS q x.i).l2.loc.n 18 (clS q x.i).l2.loc.g = XV.fz (clS q q.n).l2.loc.n 18 (clS q q.n).l2.loc.g ∧ (clS q x.i).l3.live = (clS q q.n).l3.live ∧ (clS q x.i).l3.gen = (clS q q.n).l3.gen ∧ ((XV.fz (clS q x.i).l3.dom.n 1 fun (j : Nat) => [XT ((clS q x.i).l3.dom.g j)]) = XV.fz (clS q q.n).l3.dom.n 1 fun (j : Nat) => [XT ((clS q q.n).l3.dom.g j)]) ∧ (clS q x.i).l3.dft = (clS q q.n).l3.dft ∧ (clS q x.i).l3.ll = (clS q q.n).l3.ll ∧ XV.fz (clS q x.i).l3.srv.n 16 (clS q x.i).l3.srv.g = XV.fz (clS q q.n).l3.srv.n 16 (clS q q.n).l3.srv.g ∧ XV.fz (clS q x.i).l3.loc.n 18 (clS q x.i).l3.loc.g = XV.fz (clS q q.n).l3.loc.n 18 (clS q q.n).l3.loc.g ∧ XV.top = XV.top ∧ XV.top = XV.top ∧ XV.top = XV.top ∧ XV.top = XV.top ∧ (clS q x.i).g = (clS q q.n).g ∧ True) ∧ True)) ∧ ∀ (x : IL), True → (∀ (i : Nat), i < (clS q q.n).l0.dom.n → [XT ((clS q q.n).l0.dom.g i)] = [XT ((clS q q.n).l0.dom.g i)]) ∧ (∀ (i : Nat), i < (clS q q.n).l1.dom.n → [XT ((clS q q.n).l1.dom.g i)] = [XT ((clS q q.n).l1.dom.g i)]) ∧ (∀ (i : Nat), i < (clS q q.n).l2.dom.n → [XT ((clS q q.n).l2.dom.g i)] = [XT ((clS q q.n).l2.dom.g i)]) ∧ (∀ (i : Nat), i < (clS q q.n).l3.dom.n → [XT ((clS q q.n).l3.dom.g i)] = [XT ((clS q q.n).l3.dom.g i)]) ∧ n.size ≤ (1000000 : Nat) ∧ (∃ (x : (qJ q n).σ), x.i.le 4 ∧ true = true ∧ n = n ∧ XV.ptr 0 0 0 0 = XV.ptr 0 0 0 0 ∧ ((XV.fz (lenI (ngL (clS q q.n) n 4)) 1 fun (j : Nat) => [XI (getI (ngL (clS q q.n) n 4) j)]) = XV.fz (lenI (ngL (clS q q.n) n 4)) 1 fun (j : Nat) => [XI (getI (ngL (clS q q.n) n 4) j)]) ∧ XV.sl 1 1 0 0 = XV.sl 1 1 0 (lenI (ngL (clS q q.n) n x.i)) ∧ (0 : Int) = (↑x.i : Int) ∧ (((70 : TypeId) = (70 : TypeId) ∧ true = true) ∧ (clS q q.n).l0.live = (clS q q.n).l0.live ∧ (clS q q.n).l0.gen = (clS q q.n).l0.gen ∧ ((XV.fz (clS q q.n).l0.dom.n 1 fun (j : Nat) => [XT ((clS q q.n).l0.dom.g j)]) = XV.fz (clS q q.n).l0.dom.n 1 fun (j : Nat) => [XT ((clS q q.n).l0.dom.g j)]) ∧ (clS q q.n).l0.dft = (clS q q.n).l0.dft ∧ (clS q q.n).l0.ll = (clS q q.n).l0.ll ∧ XV.fz (clS q q.n).l0.srv.n 16 (clS q q.n).l0.srv.g = XV.fz (clS q q.n).l0.srv.n 16 (clS q q.n).l0.srv.g ∧ XV.fz (clS q q.n).l0.loc.n 18 (clS q q.n).l0.loc.g = XV.fz (clS q q.n).l0.loc.n 18 (clS q q.n).l0.loc.g ∧ (clS q q.n).l1.live = (clS q q.n).l1.live ∧ (clS q q.n).l1.gen = (clS q q.n).l1.gen ∧ ((XV.fz (clS q q.n).l1.dom.n 1 fun (j : Nat) => [XT ((clS q q.n).l1.dom.g j)]) = XV.fz (clS q q.n).l1.dom.n 1 fun (j : Nat) => [XT ((clS q q.n).l1.dom.g j)]) ∧ (clS q q.n).l1.dft = (clS q q.n).l1.dft ∧ (clS q q.n).l1.ll = (clS q q.n).l1.ll ∧ XV.fz (clS q q.n).l1.srv.n 16 (clS q q.n).l1.srv.g = XV.fz (clS q q.n).l1.srv.n 16 (clS q q.n).l1.srv.g ∧ XV.fz (clS q q.n).l1.loc.n 18 (clS q q.n).l1.loc.g = XV.fz (clS q q.n).l1.loc.n 18 (clS q q.n).l1.loc.g ∧ (clS q q.n).l2.live = (clS q q.n).l2.live ∧ (clS q q.n).l2.gen = (clS q q.n).l2.gen ∧ ((XV.fz (clS q q.n).l2.dom.n 1 fun (j : Nat) => [XT ((clS q q.n).l2.dom.g j)]) = XV.fz (clS q q.n).l2.dom.n 1 fun (j : Nat) => [XT ((clS q q.n).l2.dom.g j)]) ∧ (clS q q.n).l2.dft = (clS q q.n).l2.dft ∧ (clS q q.n).l2.ll = (clS q q.n).l2.ll ∧ XV.fz (clS q q.n).l2.srv.n 16 (clS q q.n).l2.srv.g = XV.fz (clS q q.n).l2.srv.n 16 (clS q q.n).l2.srv.g ∧ XV.fz (clS q q.n).l2.loc.n 18 (clS q q.n).l2.loc.g = XV.fz (clS q q.n).l2.loc.n 18 (clS q q.n).l2.loc.g ∧ (clS q q.n).l3.live = (clS q q.n).l3.live ∧ (clS q q.n).l3.gen = (clS q q.n).l3.gen ∧ ((XV.fz (clS q q.n).l3.dom.n 1 fun (j : Nat) => [XT ((clS q q.n).l3.dom.g j)]) = XV.fz (clS q q.n).l3.dom.n 1 fun (j : Nat) => [XT ((clS q q.n).l3.dom.g j)]) ∧ (clS q q.n).l3.dft = (clS q q.n).l3.dft ∧ (clS q q.n).l3.ll = (clS q q.n).l3.ll ∧ XV.fz (clS q q.n).l3.srv.n 16 (clS q q.n).l3.srv.g = XV.fz (clS q q.n).l3.srv.n 16 (clS q q.n).l3.srv.g ∧ XV.fz (clS q q.n).l3.loc.n 18 (clS q q.n).l3.loc.g = XV.fz (clS q q.n).l3.loc.n 18 (clS q q.n).l3.loc.g ∧ XV.top = XV.top ∧ XV.top = XV.top ∧ XV.top = XV.top ∧ XV.top = XV.top ∧ (clS q q.n).g = (clS q q.n).g ∧ True) ∧ (((3 : Nat) = (3 : TypeId) ∧ true = true ∧ (1 : Nat) = (1 : Nat)) ∧ (0 : Nat) = lenI (ngL (clS q q.n) n x.i) ∧ ∀ (j : Nat), j < (0 : Nat) → [] = [XI (getI (ngL (clS q q.n) n x.i) j)]) ∧ True) ∧ ∀ (x : IL), x.i.le 4 → (decide ((↑x.i : Int) < (4 : Int)) = true → (∀ (i : Nat), i < (clS q q.n).l0.dom.n → [XT ((clS q q.n).l0.dom.g i)] = [XT ((clS q q.n).l0.dom.g i)]) ∧ (∀ (i : Nat), i < (clS q q.n).l1.dom.n → [XT ((clS q q.n).l1.dom.g i)] = [XT ((clS q q.n).l1.dom.g i)]) ∧ (∀ (i : Nat), i < (clS q q.n).l2.dom.n → [XT ((clS q q.n).l2.dom.g i)] = [XT ((clS q q.n).l2.dom.g i)]) ∧ (∀ (i : Nat), i < (clS q q.n).l3.dom.n → [XT ((clS q q.n).l3.dom.g i)] = [XT ((clS q q.n).l3.dom.g i)]) ∧ inB (↑x.i : Int) = true ∧ ((gotB (clS q q.n) (↑x.i : Int) && (getK (clS q q.n) (↑x.i : Int)).ll && cntB n ptT == (0 : Int)) = true → lenI (ngL (clS q q.n) n x.i) = lenI (ngL (clS q q.n) n x.i) ∧ (lenI (ngL (clS q q.n) n x.i) + (1 : Nat)) * (8 : Nat) ≤ (140737488355328 : Nat) ∧ lenI (ngL (clS q q.n) n x.i) + (1 : Nat) ≤ (140737488355328 : Nat) ∧ in64 ((↑x.i : Int) + (1 : Int)) ∧ ∃ (x' : (qJ q n).σ), x'.i.le 4 ∧ (4 : Nat) - x'.i < (4 : Nat) - x.i ∧ true = true ∧ n = n ∧ XV.ptr 0 0 0 0 = XV.ptr 0 0 0 0 ∧ ((XV.fz (lenI (ngL (clS q q.n) n 4)) 1 fun (j : Nat) => [XI (getI (ngL (clS q q.n) n 4) j)]) = XV.fz (lenI (ngL (clS q q.n) n 4)) 1 fun (j : Nat) => [XI (getI (ngL (clS q q.n) n 4) j)]) ∧ XV.sl 1 1 0 (lenI (ngL (clS q q.n) n x.i) + (1 : Nat)) = XV.sl 1 1 0 (lenI (ngL (clS q q.n) n x'.i)) ∧ (↑x.i : Int) + (1 : Int) = (↑x'.i : Int) ∧ (((70 : TypeId) = (70 : TypeId) ∧ true = true) ∧ (clS q q.n).l0.live = (clS q q.n).l0.live ∧ (clS q q.n).l0.gen = (clS q q.n).l0.gen ∧ ((XV.fz (clS q q.n).l0.dom.n 1 fun (j : Nat) => [XT ((clS q q.n).l0.dom.g j)]) = XV.fz (clS q q.n).l0.dom.n 1 fun (j : Nat) => [XT ((clS q q.n).l0.dom.g j)]) ∧ (clS q q.n).l0.dft = (clS q q.n).l0.dft ∧ (clS q q.n).l0.ll = (clS q q.n).l0.ll ∧ XV.fz (clS q q.n).l0.srv.n 16 (clS q q.n).l0.srv.g = XV.fz (clS q q.n).l0.srv.n 16 (clS q q.n).l0.srv.g ∧ XV.fz (clS q q.n).l0.loc.n 18 (clS q q.n).l0.loc.g = XV.fz (clS q q.n).l0.loc.n 18 (clS q q.n).l0.loc.g ∧ (clS q q.n).l1.live = (clS q q.n).l1.live ∧ (clS q q.n).l1.gen = (clS q q.n).l1.gen ∧ ((XV.fz (clS q q.n).l1.dom.n 1 fun (j : Nat) => [XT ((clS q q.n).l1.dom.g j)]) = XV.fz (clS q q.n).l1.dom.n 1 fun (j : Nat) => [XT ((clS q q.n).l1.dom.g j)]) ∧ (clS q q.n).l1.dft = (clS q q.n).l1.dft ∧ (clS q q.n).l1.ll = (clS q q.n).l1.ll ∧ XV.fz (clS q q.n).l1.srv.n 16 (clS q q.n).l1.srv.g = XV.fz (clS q q.n).l1.srv.n 16 (clS q q.n).l1.srv.g ∧ XV.fz (clS q q.n).l1.loc.n 18 (clS q q.n).l1.loc.g = XV.fz (clS q q.n).l1.loc.n 18 (clS q q.n).l1.loc.g ∧ (clS q q.n).l2.live = (clS q q.n).l2.live ∧ (clS q q.n).l2.gen = (clS q q.n).l2.gen ∧ ((XV.fz (clS q q.n).l2.dom.n 1 fun (j : Nat) => [XT ((clS q q.n).l2.dom.g j)]) = XV.fz (clS q q.n).l2.dom.n 1 fun (j : Nat) => [XT ((clS q q.n).l2.dom.g j)]) ∧ (clS q q.n).l2.dft = (clS q q.n).l2.dft ∧ (clS q q.n).l2.ll = (clS q q.n).l2.ll ∧ XV.fz (clS q q.n).l2.srv.n 16 (clS q q.n).l2.srv.g = XV.fz (clS q q.n).l2.srv.n 16 (clS q q.n).l2.srv.g ∧ XV.fz (clS q q.n).l2.loc.n 18 (clS q q.n).l2.loc.g = XV.fz (clS q q.n).l2.loc.n 18 (clS q q.n).l2.loc.g ∧ (clS q q.n).l3.live = (clS q q.n).l3.live ∧ (clS q q.n).l3.gen = (clS q q.n).l3.gen ∧ ((XV.fz (clS q q.n).l3.dom.n 1 fun (j : Nat) => [XT ((clS q q.n).l3.dom.g j)]) = XV.fz (clS q q.n).l3.dom.n 1 fun (j : Nat) => [XT ((clS q q.n).l3.dom.g j)]) ∧ (clS q q.n).l3.dft = (clS q q.n).l3.dft ∧ (clS q q.n).l3.ll = (clS q q.n).l3.ll ∧ XV.fz (clS q q.n).l3.srv.n 16 (clS q q.n).l3.srv.g = XV.fz (clS q q.n).l3.srv.n 16 (clS q q.n).l3.srv.g ∧ XV.fz (clS q q.n).l3.loc.n 18 (clS q q.n).l3.loc.g = XV.fz (clS q q.n).l3.loc.n 18 (clS q q.n).l3.loc.g ∧ XV.top = XV.top ∧ XV.top = XV.top ∧ XV.top = XV.top ∧ XV.top = XV.top ∧ (clS q q.n).g = (clS q q.n).g ∧ True) ∧ (((3 : TypeId) = (3 : TypeId) ∧ true = true ∧ (1 : Nat) = (1 : Nat)) ∧ lenI (ngL (clS q q.n) n x.i) + (1 : Nat) = lenI (ngL (clS q q.n) n x'.i) ∧ ∀ (j : Nat), j < lenI (ngL (clS q q.n) n x.i) + (1 : Nat) → [Bool.rec (XI (↑x.i : Int)) (XI (getI (ngL (clS q q.n) n x.i) j)) (j.blt (lenI (ngL (clS q q.n) n x.i)))] = [XI (getI (ngL (clS q q.n) n x'.i) j)]) ∧ True) ∧ ((gotB (clS q q.n) (↑x.i : Int) && (getK (clS q q.n) (↑x.i : Int)).ll && cntB n ptT == (0 : Int)) = false → in64 ((↑x.i : Int) + (1 : Int)) ∧ ∃ (x' : (qJ q n).σ), x'.i.le 4 ∧ (4 : Nat) - x'.i < (4 : Nat) - x.i ∧ true = true ∧ n = n ∧ XV.ptr 0 0 0 0 = XV.ptr 0 0 0 0 ∧ ((XV.fz (lenI (ngL (clS q q.n) n 4)) 1 fun (j : Nat) => [XI (getI (ngL (clS q q.n) n 4) j)]) = XV.fz (lenI (ngL (clS q q.n) n 4)) 1 fun (j : Nat) => [XI (getI (ngL (clS q q.n) n 4) j)]) ∧ XV.sl 1 1 0 (lenI (ngL (clS q q.n) n x.i)) = XV.sl 1 1 0 (lenI (ngL (clS q q.n) n x'.i)) ∧ (↑x.i : Int) + (1 : Int) = (↑x'.i : Int) ∧ (((70 : TypeId) = (70 : TypeId) ∧ true = true) ∧ (clS q q.n).l0.live = (clS q q.n).l0.live ∧ (clS q q.n).l0.gen = (clS q q.n).l0.gen ∧ ((XV.fz (clS q q.n).l0.dom.n 1 fun (j : Nat) => [XT ((clS q q.n).l0.dom.g j)]) = XV.fz (clS q q.n).l0.dom.n 1 fun (j : Nat) => [XT ((clS q q.n).l0.dom.g j)]) ∧ (clS q q.n).l0.dft = (clS q q.n).l0.dft ∧ (clS q q.n).l0.ll = (clS q q.n).l0.ll ∧ XV.fz (clS q q.n).l0.srv.n 16 (clS q q.n).l0.srv.g = XV.fz (clS q q.n).l0.srv.n 16 (clS q q.n).l0.srv.g ∧ XV.fz (clS q q.n).l0.loc.n 18 (clS q q.n).l0.loc.g = XV.fz (clS q q.n).l0.loc.n 18 (clS q q.n).l0.loc.g ∧ (clS q q.n).l1.live = (clS q q.n).l1.live ∧ (clS q q.n).l1.gen = (clS q q.n).l1.gen ∧ ((XV.fz (clS q q.n).l1.dom.n 1 fun (j : Nat) => [XT ((clS q q.n).l1.dom.g j)]) = XV.fz (clS q q.n).l1.dom.n 1 fun (j : Nat) => [XT ((clS q q.n).l1.dom.g j)]) ∧ (clS q q.n).l1.dft = (clS q q.n).l1.dft ∧ (clS q q.n).l1.ll = (clS q q.n).l1.ll ∧ XV.fz (clS q q.n).l1.srv.n 16 (clS q q.n).l1.srv.g = XV.fz (clS q q.n).l1.srv.n 16 (clS q q.n).l1.srv.g ∧ XV.fz (clS q q.n).l1.loc.n 18 (clS q q.n).l1.loc.g = XV.fz (clS q q.n).l1.loc.n 18 (clS q q.n).l1.loc.g ∧ (clS q q.n).l2.live = (clS q q.n).l2.live ∧ (clS q q.n).l2.gen = (clS q q.n).l2.gen ∧ ((XV.fz (clS q q.n).l2.dom.n 1 fun (j : Nat) => [XT ((clS q q.n).l2.dom.g j)]) = XV.fz (clS q q.n).l2.dom.n 1 fun (j : Nat) => [XT ((clS q q.n).l2.dom.g j)]) ∧ (clS q q.n).l2.dft = (clS q q.n).l2.dft ∧ (clS q q.n).l2.ll = (clS q q.n).l2.ll ∧ XV.fz (clS q q.n).l2.srv.n 16 (clS q q.n).l2.srv.g = XV.fz (clS q q.n).l2.srv.n 16 (clS q q.n).l2.srv.g ∧ XV.fz (clS q q.n).l2.loc.n 18 (clS q q.n).l2.loc.g = XV.fz (clS q q.n).l2.loc.n 18 (clS q q.n).l2.loc.g ∧ (clS q q.n).l3.live = (clS q q.n).l3.live ∧ (clS q q.n).l3.gen = (clS q q.n).l3.gen ∧ ((XV.fz (clS q q.n).l3.dom.n 1 fun (j : Nat) => [XT ((clS q q.n).l3.dom.g j)]) = XV.fz (clS q q.n).l3.dom.n 1 fun (j : Nat) => [XT ((clS q q.n).l3.dom.g j)]) ∧ (clS q q.n).l3.dft = (clS q q.n).l3.dft ∧ (clS q q.n).l3.ll = (clS q q.n).l3.ll ∧ XV.fz (clS q q.n).l3.srv.n 16 (clS q q.n).l3.srv.g = XV.fz (clS q q.n).l3.srv.n 16 (clS q q.n).l3.srv.g ∧ XV.fz (clS q q.n).l3.loc.n 18 (clS q q.n).l3.loc.g = XV.fz (clS q q.n).l3.loc.n 18 (clS q q.n).l3.loc.g ∧ XV.top = XV.top ∧ XV.top = XV.top ∧ XV.top = XV.top ∧ XV.top = XV.top ∧ (clS q q.n).g = (clS q q.n).g ∧ True) ∧ (((3 : TypeId) = (3 : TypeId) ∧ true = true ∧ (1 : Nat) = (1 : Nat)) ∧ lenI (ngL (clS q q.n) n x.i) = lenI (ngL (clS q q.n) n x'.i) ∧ ∀ (j : Nat), j < lenI (ngL (clS q q.n) n x.i) → [XI (getI (ngL (clS q q.n) n x.i) j)] = [XI (getI (ngL (clS q q.n) n x'.i) j)]) ∧ True)) ∧ (decide ((↑x.i : Int) < (4 : Int)) = false → lenI (ngL (clS q q.n) n x.i) = lenI (ngL (clS q q.n) n x.i) ∧ (∀ (i : Nat), i < lenI (ngL (clS q q.n) n 4) → [XI (getI (ngL (clS q q.n) n 4) i)] = [XI (getI (ngL (clS q q.n) n 4) i)]) ∧ (∀ (i : Nat), i < lenI (ngL (clS q q.n) n x.i) → [XI (getI (ngL (clS q q.n) n x.i) i)] = [XI (getI (ngL (clS q q.n) n x.i) i)]) ∧ lenI (ngL (clS q q.n) n 4) ≤ (4611686018427387904 : Nat) ∧ (elQ { n := lenI (ngL (clS q q.n) n 4), g := getI (ngL (clS q q.n) n 4) : Sq Int } { n := lenI (ngL (clS q q.n) n x.i), g := getI (ngL (clS q q.n) n x.i) : Sq Int } = true → (∀ (i : Nat), i < (clS q q.n).l0.dom.n → [XT ((clS q q.n).l0.dom.g i)] = [XT ((clS q q.n).l0.dom.g i)]) ∧ (∀ (i : Nat), i < (clS q q.n).l1.dom.n → [XT ((clS q q.n).l1.dom.g i)] = [XT ((clS q q.n).l1.dom.g i)]) ∧ (∀ (i : Nat), i < (clS q q.n).l2.dom.n → [XT ((clS q q.n).l2.dom.g i)] = [XT ((clS q q.n).l2.dom.g i)]) ∧ (∀ (i : Nat), i < (clS q q.n).l3.dom.n → [XT ((clS q q.n).l3.dom.g i)] = [XT ((clS q q.n).l3.dom.g i)]) ∧ (3 : Nat) ≤ (1000000 : Nat) ∧ (true = true → ((↑(lenI (ngL (clS q q.n) ⟨#[97, 46, 98]⟩ 4)) : Int) == (0 : Int)) = true) ∧ (true = !true → false = true)) ∧ (elQ { n := lenI (ngL (clS q q.n) n 4), g := getI (ngL (clS q q.n) n 4) : Sq Int } { n := lenI (ngL (clS q q.n) n x.i), g := getI (ngL (clS q q.n) n x.i) : Sq Int } = !true → false = true))))
theorem nbV_eq (q : Sq Cll) (n : ByteArray) : nbV q n = (funC cxQ Tryd.f6 (mkSc (qE q n) (bodyOf Tryd.f6)) [.fz q.n 9 fun i => cllX (q.g i), XT n] (XB true)) := by kernel_rfl
end Go.Proofs.YtaglpckihegmoaaDoorAv
namespace Go.Proofs.YtaglpckihegmoaaDoorAv
open Go Go.RowKit
theorem set_ok2 : ITok Tryd.prog 13 (itT setC2) := TT2_ok cxS_ok Tryd.func13 rfl (by decide) dTab_ok dInt_eq.ok dLk_ok (by kernel_rfl) (fun _ _ _ => rfl) fun T i k hc => exvT (fun e ap => stV_eq T i k e ap) fun e ap => st_v T i k e ap (hc _ (.head _)) (hc _ (.tail _ (.head _)))
theorem clS_g (q : Sq Cll) : ∀ i, 0 ≤ (clS q i).g ∧ (clS q i).g ≤ i
 | 0 => ⟨by show (0 : Int) ≤ 0; decide, by show (0 : Int) ≤ 0; decide⟩
 | i + 1 => by
  have h := clS_g q i
  have h4 := setTb_g (clS q i) (q.g i).n (q.g i).k
  rw [clS]
  omega
theorem inB_n {i : Nat} (h : i < 4) : inB i = true := by
 rw [inB, decide_eq_true (show (0 : Int) ≤ i by omega), decide_eq_true (show (i : Int) < 4 by omega)]
 rfl
theorem ng_eq (T : LTab) (s : ByteArray) {i : Nat} (h : i < 4) : (gotB T i && (getK T i).ll && cntB s ptT == 0) = ngB (T.at i) s := by
 have e : gotB T i = (T.at i).live := by rw [gotB, inB_n h, Bool.true_and, Int.toNat_natCast]
 rw [getK, e, Int.toNat_natCast, ngB]
 cases (T.at i).live with
 | false => rfl
 | true => rw [if_pos rfl, Bool.true_and, Bool.true_and]; congr 1
theorem ngL_none {T : LTab} {s : ByteArray} (h : cntB s ptT ≠ 0) : ∀ k, ngL T s k = []
 | 0 => rfl
 | k + 1 => by
  rw [ngL, if_neg]
  ·exact ngL_none h k
  ·rw [ngB, decide_eq_false h, Bool.and_false, Bool.and_false]
   decide
theorem ab_dots : cntB ⟨#[97, 46, 98]⟩ ptT ≠ 0 := by decide +kernel
theorem lenI_ngL (T : LTab) (s : ByteArray) : ∀ k, lenI (ngL T s k) ≤ k
 | 0 => Nat.le_refl _
 | k + 1 => by
  have := lenI_ngL T s k
  unfold ngL
  split
  ·unfold lenI at *; rw [List.length_append, List.length_singleton]; omega
  ·omega
theorem nb_v (q : Sq Cll) (n : ByteArray) (h1 : ∀ j, j < q.n → (q.g j).k.dom.n ≤ 4611686018427387904) : nbV q n := by
 unfold nbV
 refine ⟨fun h => Bool.noConfusion h, fun _ => ⟨fun _ _ => rfl, h1, fun _ => rfl, fun h => ?_⟩⟩
 rw [Bool.or_eq_false_iff, Bool.not_eq_false', decide_eq_false_iff_not] at h
 obtain ⟨hl, hn⟩ := h
 have hq : q.n ≤ 60 := by
  rw [litB, Bool.and_eq_true] at hl
  exact of_decide_eq_true hl.1
 have hsz : n.size ≤ 1000000 := by omega
 refine ⟨⟨⟨⟨0⟩, ⟨Nat.zero_le _, hq⟩, ?_⟩, ?_⟩, fun _ _ => ⟨fun _ _ => rfl, fun _ _ => rfl, fun _ _ => rfl, fun _ _ => rfl, hsz, ⟨⟨0⟩, Nat.zero_le _, ?_⟩, ?_⟩⟩
 ·and_intros <;> first | rfl | trivial | exact fun _ _ => rfl
 ·rintro ⟨i⟩ ⟨hi, -⟩
  have hi : i ≤ q.n := hi
  dsimp only
  rw [Int.toNat_natCast]
  refine ⟨fun hl => ?_, fun hl => ?_⟩
  ·have hl : i < q.n := by
    have := of_decide_eq_true hl
    omega
   have hg := clS_g q i
   refine ⟨by omega, by omega, fun _ _ => rfl, fun _ _ => rfl, fun _ _ => rfl, fun _ _ => rfl, fun _ _ => rfl, h1 i hl, ⟨by omega, by omega⟩, by unfold in64; omega, ⟨i + 1⟩, ⟨hl, hq⟩, by show _ - (i + 1) < _ - i; omega, ?_⟩
   and_intros <;> first | rfl | trivial | exact fun _ _ => rfl
  ·obtain rfl : i = q.n := by
    have := of_decide_eq_false hl
    omega
   refine ⟨⟨0⟩, trivial, ?_⟩
   and_intros <;> first | rfl | trivial | exact fun _ _ => rfl
 ·and_intros <;> first | rfl | trivial | exact fun _ h => absurd h (Nat.not_lt_zero _)
 ·rintro ⟨i⟩ hi
  have hi : i ≤ 4 := hi
  dsimp only
  refine ⟨fun hl => ?_, fun hl => ?_⟩
  ·have hl : i < 4 := by
    have := of_decide_eq_true hl
    omega
   have hlen := lenI_ngL (clS q q.n) n i
   refine ⟨fun _ _ => rfl, fun _ _ => rfl, fun _ _ => rfl, fun _ _ => rfl, inB_n hl, fun hb => ?_, fun hb => ?_⟩
   ·rw [ng_eq _ _ hl] at hb
    have e : ngL (clS q q.n) n (i + 1) = ngL (clS q q.n) n i ++ [(i : Int)] := by rw [ngL, if_pos hb]
    refine ⟨rfl, by omega, by omega, by unfold in64; omega, ⟨i + 1⟩, hl, by show 4 - (i + 1) < 4 - i; omega, ?_⟩
    dsimp only
    rw [e, lenI_app]
    and_intros <;> first | rfl | trivial | exact fun _ _ => rfl | (intro j hj; rw [getI_app _ _ _ hj]; first | rfl | (cases Nat.blt j (lenI (ngL (clS q q.n) n i)) <;> rfl))
   ·rw [ng_eq _ _ hl] at hb
    have e : ngL (clS q q.n) n (i + 1) = ngL (clS q q.n) n i := by rw [ngL, if_neg (by rw [hb]; decide)]
    refine ⟨by unfold in64; omega, ⟨i + 1⟩, hl, by show 4 - (i + 1) < 4 - i; omega, ?_⟩
    dsimp only
    rw [e]
    and_intros <;> first | rfl | trivial | exact fun _ _ => rfl
  ·obtain rfl : i = 4 := by
    have := of_decide_eq_false hl
    omega
   have hlen := lenI_ngL (clS q q.n) n 4
   refine ⟨rfl, fun _ _ => rfl, fun _ _ => rfl, by omega, fun _ => ⟨fun _ _ => rfl, fun _ _ => rfl, fun _ _ => rfl, fun _ _ => rfl, by decide, fun _ => ?_, fun h => by cases h⟩, fun h => ?_⟩
   ·rw [ngL_none ab_dots]; rfl
   ·rw [elQ_self] at h; cases h
theorem cxQ_ok (hN : ITok Tryd.prog 19 (itT ngC)) : cxQ.ok Tryd.prog := (((((((cx0_ok.addC dot_ok).addC el_ok).addC lit_ok).addC fit_ok).addL hN).addL get_ok).addL set_ok2).addL nw_ok
theorem nbs_ok (hN : ITok Tryd.prog 19 (itT ngC)) : CTok Tryd.prog 6 (C2 dClls dStr (fun q _ => [∀ j, j < q.n → (q.g j).k.dom.n ≤ 4611686018427387904]) fun _ _ => XB true) := C2_ok (cxQ_ok hN) Tryd.func6 rfl (by decide) dClls_ok dStr_eq.ok (by kernel_rfl) (fun _ _ => rfl) fun q n hc => exv (nbV_eq q n) (nb_v q n (hc _ (.head _)))
end Go.Proofs.YtaglpckihegmoaaDoorAv
namespace Go.Proofs.YtaglpckihegmoaaDoorAv
open Go Go.RowKit
section
variable {P : Program} {N : Nat} {ops : Array Oper} {Q : Exit → TM → GH → Prop} {d : Option Nat} {ty : TypeId} {pos : String} {af : Array Edge} {os : List Oper} {t : TM} {L : GH}
def JY (P : Program) (g : Nat) (args : List AV) (L : GH) (R : AV → GH → Prop) : Prop :=
 ∀ (w : World) (xs : List Value), Glb L w → VSL L w args xs → (∀ g r, L g = some r → RowR L w g r) →
  ∃ fn tmps assign body, (Instr.yield g xs.toArray).run P w = .ok (.round g fn tmps assign body) w ∧
   RoundIn Fence.wide 0 P g fn tmps assign body w fun e w' => ∃ v x L', e = .returned x ∧ VS L' w' v x ∧ (∀ g r, L' g = some r → RowR L' w' g r) ∧ Ext L w L' w' ∧ R v L'
theorem roundIn_fr {ro : Option Nat} {n : Nat} {l : Nat} {f : FuncId} {tmps : Array Value} {assign body : Code} {w : World} {R : Ending → World → Prop} (h : RoundIn Fence.wide n P l f tmps assign body w R) : RoundIn (FR ro) n P l f tmps assign body w R := by
 cases ro with
 | none => exact h
 | some l => exact h
theorem JO.callY {o : Operand} {g : Nat} {xs : List Operand} {tys : Array TypeId} {R : AV → GH → Prop} (ho : ev t o = .p (.func (.yield g) #[] #[]))
  (hd : dok N d = true) (h : JY P g (xs.map (ev t)) L R) (K : ∀ v L', R v L' → JO P N ops Q os (t.putO d v) L') :
  JO P N ops Q (⟨d, .call { callee := .value o, args := xs.toArray, argTypes := tys }, ty, pos, af, none⟩ :: os) t L := by
 intro ro L0 w0 a w he hs
 have ex := hs.ev o
 rw [ho] at ex
 simp only [VS] at ex
 obtain ⟨fn, tmps, assign, body, hy, hr⟩ := h w (xs.map a.eval) hs.df.2 (evs hs xs) hs.rows
 have hx : (execOp a.eval ⟨d, .call { callee := .value o, args := xs.toArray, argTypes := tys }, ty, pos, af, none⟩).run P w = .ok (.round g fn tmps assign body) w := by
  simp [execOp, resolve, ex, Deferred.ofValue, invoke]
  simpa using hy
 unfold wpListIn
 rw [if_pos (by simp [Region.wanted])]
 unfold Oper.wpIn
 refine ⟨fun _ _ => trivial, ?_⟩
 rw [Oper.semAt_eq _ _ _ (by intro c h; cases h), hx]
 simp only [Oper.uponIn_round]
 refine ⟨fun k => (by cases ro <;> cases k), (roundIn_fr hr).mono ?_⟩
 rintro e w' ⟨v, x, L', rfl, hv, hrows, hx, r⟩
 show wpListIn _ _ _ _ _ _ _ _
 refine K v L' r ro L0 w0 _ w' (he.trans hx) ?_
 have s' := hs.ext hx hrows
 cases d with
 | none => exact s'
 | some i => exact s'.put i (dok_lt hd i rfl) hv
theorem JO.app2 : ∀ (os1 : List Oper) {os2 : List Oper} {t : TM} {L : GH}, JO P N ops (fun e t' L' => e = .normal ∧ JO P N ops Q os2 t' L') os1 t L → JO P N ops Q (os1 ++ os2) t L := by
 have go : ∀ (ro : Option Nat) (Q1 Q2 : Exit → Act → World → Prop) (os2 os1 : List Oper) (a : Act) (w : World), (∀ e a w, Q1 e a w → e = .normal) → (∀ a w, Q1 .normal a w → wpListIn (FR ro) 0 P ops Q2 os2 a w) →
   wpListIn (FR ro) 0 P ops Q1 os1 a w → wpListIn (FR ro) 0 P ops Q2 (os1 ++ os2) a w := by
  intro ro Q1 Q2 os2 os1
  induction os1 with
  | nil => intro a w _ hk h; exact hk a w h
  | cons o os1 ih =>
   intro a w hn hk h
   rw [List.cons_append]
   unfold wpListIn at h ⊢
   split at h
   ·rename_i hw
    rw [if_pos hw]
    exact upon_conv (fun a' w' h' => ih a' w' hn hk h') hn h
   ·rename_i hw
    rw [if_neg hw]
    exact ⟨h.1, ih _ _ hn hk h.2⟩
 intro os1 os2 t L h ro L0 w0 a w he hs
 refine go ro _ _ os2 os1 a w ?_ ?_ (h ro L0 w0 a w he hs)
 ·rintro e a w ⟨t', L', _, _, h1, _⟩
  exact h1
 ·rintro a w ⟨t', L', s', x', _, h2⟩
  exact h2 ro L0 w0 a w x' s'
theorem step_ob {w : World} {L : GH} {g : Nat} {o o' : Obj} (hr : ∀ g r, L g = some r → RowR L w g r) (hL : L g = some ⟨0, .ob o, []⟩) (hn : ∀ (cs : Array Value) e fr, o ≠ .cells cs e fr) :
  Ext L w (upd L g ⟨0, .ob o', []⟩) (w.putObj g o') ∧ ∀ g' r', upd L g ⟨0, .ob o', []⟩ g' = some r' → RowR (upd L g ⟨0, .ob o', []⟩) (w.putObj g o') g' r' := by
 obtain ⟨-, hh⟩ := hr g _ hL
 have hh : w.heap[g]? = some o := hh
 have hlt : g < w.heap.size := (Array.getElem?_eq_some_iff.1 hh).1
 have hx : Ext L w (upd L g ⟨0, .ob o', []⟩) (w.putObj g o') := by
  refine ⟨rfl, rfl, rfl, by simp [World.putObj], fun b' hb hl => ?_, fun b' hb hl => ?_, fun b' c e fr hc => ?_⟩
  ·have : g ≠ b' := by rintro rfl; rw [hL] at hl; cases hl
   simp [World.putObj, Array.getElem?_setIfInBounds, this]
  ·rw [upd_ne]
   ·exact hl
   ·rintro rfl; rw [hL] at hl; cases hl
  ·have : g ≠ b' := by rintro rfl; rw [hh] at hc; exact hn _ _ _ (Option.some.inj hc)
   exact ⟨c, e, fr, by simpa [World.putObj, Array.getElem?_setIfInBounds, this] using hc, rfl⟩
 refine ⟨hx, fun g' r' hg' => ?_⟩
 by_cases hgg : g' = g
 ·subst hgg
  rw [upd_same] at hg'
  obtain rfl := Option.some.inj hg'
  exact ⟨rfl, by simp [World.putObj, hlt]⟩
 ·rw [upd_ne _ _ _ _ hgg] at hg'
  exact (hr g' r' hg').ext hx (by simp [World.putObj, Array.getElem?_setIfInBounds, Ne.symm hgg])
def rdyR (r : Loop) : Row := ⟨0, .ob (.loop r), []⟩
def bsyR (r : Loop) : Row := ⟨0, .ob (.loop { r with state := .busy }), []⟩
theorem JY_of {g : Nat} {r : Loop} {p q : Nat} {a b : AV} {t0 : TM} {R : GH → Prop} (hL : L g = some (rdyR r)) (hst : r.state = .ready) (hpe : r.pending = none) (hps : r.params = #[p, q]) (hN : r.tmps.size = N) (hp : p < N) (hq : q < N) (hpq : p ≠ q)
  (ht : ∀ w, ∀ i, VS L w (t0 i) (r.tmps.getD i undef))
  (h : J P N r.assign (fun e t1 L1 => e = .normal ∧ L1 g = some (rdyR r) ∧ J P N r.body (fun e _ L2 => e = .normal ∧ L2 g = some (bsyR r) ∧ R (upd L2 g (rdyR r))) t1 (upd L1 g (bsyR r))) ((t0.put p a).put q b) L) :
  JY P g [a, b] L fun v L' => v = .p (.bool true) ∧ R L' := by
 intro w xs hglb hv hrows
 match xs, hv with
 | [x, y], hv =>
  simp only [VSL, and_true] at hv
  obtain ⟨hx, hy⟩ := hv
  have hh : w.heap[g]? = some (.loop r) := (hrows g _ hL).2
  have hyl := run_yield (P := P) (w := w) (l := g) (r := r) (args := [x, y].toArray) hh (by rw [hps]; rfl)
  refine ⟨r.fn, _, r.assign, r.body, hyl, roundIn_of_wpIn trivial ?_⟩
  have e0 : (r.params.zip [x, y].toArray).foldl (fun tmps (t, a) => tmps.setIfInBounds t a) r.tmps = (r.tmps.setIfInBounds p x).setIfInBounds q y := by rw [hps]; simp
  rw [e0]
  have s0 : Sim N t0 L { tmps := r.tmps, defers := [] } w := ⟨fun i => ht w i, hrows, hN, rfl, hglb⟩
  have s1 := (s0.put p hp hx).put q hq hy
  have e1 : (({ tmps := r.tmps, defers := [] } : Act).put (some p) x).put (some q) y = { tmps := (r.tmps.setIfInBounds p x).setIfInBounds q y, defers := [] } := rfl
  rw [e1] at s1
  refine wpIn_mono (h (some g) L w _ w (Ext.refl _ _) s1) ?_
  rintro e a' w' ⟨t1, L1, s1', x1, rfl, hL1, hb⟩
  have hh1 : w'.heap[g]? = some (.loop r) := (s1'.rows g _ hL1).2
  refine ⟨_, run_beginRound hh1 hst, ?_⟩
  have st := step_ob (o' := .loop { r with state := .busy }) s1'.rows hL1 (fun _ _ _ h => by cases h)
  have s2 := s1'.ext st.1 st.2
  refine wpIn_mono (hb (some g) L w a' _ (x1.trans st.1) s2) ?_
  rintro e a2 w2 ⟨t2, L2, s2', x2, rfl, hL2, hR⟩
  have hh2 : w2.heap[g]? = some (.loop { r with state := .busy }) := (s2'.rows g _ hL2).2
  have hend := run_endRound (P := P) none hh2
  have e3 : ({ { r with state := LoopState.busy } with state := if (none : Option Code).isNone then LoopState.ready else LoopState.done, pending := none } : Loop) = r := by
   cases r
   simp only at hst hpe
   subst hst hpe
   rfl
  rw [e3] at hend
  have st3 := step_ob (o' := .loop r) s2'.rows hL2 (fun _ _ _ h => by cases h)
  exact ⟨_, _, hend, .p (.bool true), .bool true, upd L2 g (rdyR r), rfl, by simp [VS], st3.2, x2.trans st3.1, rfl, hR⟩
 | [], hv => simp [VSL] at hv
 | [_], hv => simp [VSL] at hv
 | _ :: _ :: _ :: _, hv => simp [VSL] at hv
end
end Go.Proofs.YtaglpckihegmoaaDoorAv
namespace Go.Proofs.YtaglpckihegmoaaDoorAv
open Go Go.RowKit
def cL : Code → Code
 | .seq a _ => a
 | c => c
def cR : Code → Code
 | .seq _ b => b
 | c => c
def cB : Code → Code
 | .block _ c => c
 | .loop c => c
 | c => c
def opsC : Code → List Oper
 | .region _ ops _ => ops.toList
 | _ => []
def rfA : Code → Code
 | .rangeFunc _ _ a _ => a
 | c => c
def rfB : Code → Code
 | .rangeFunc _ _ _ b => b
 | c => c
noncomputable def lv0 : Code := cL (bodyOf Tryd.f33)
noncomputable def lvB : Code := cB (cB (cR (bodyOf Tryd.f33)))
noncomputable def lv1 : Code := cL lvB
noncomputable def lvI : Code := cB (cL (cR (cR lvB)))
noncomputable def lv4 : Code := cR (cR (cR lvB))
noncomputable def lv2 : Code := cL lvI
noncomputable def lv3 : Code := cL (cR lvI)
noncomputable def ngBody : Code := bodyOf Tryd.f19
noncomputable def ngF : Code := cB (cR (cL (cR (cR ngBody))))
def YV (l : Nat) : XV := .v (.p (.func (.yield l) #[] #[]))
def cl28 (T : LTab) : List XV := lnkX T.l0 ++ (lnkX T.l1 ++ (lnkX T.l2 ++ lnkX T.l3))
def nrm (K : XS → Prop) : Exit → XS → Prop
 | .normal, S => K S
 | _, _ => False
def deadX (x : Lnk) : List XV := [XB false, XI x.gen, domX x.dom, XB x.dft, XB x.ll, rawX 16 x.srv, rawX 18 x.loc]
def liveX (x : Lnk) : List XV := [XB true, XI x.gen, domX x.dom, XB x.dft, XB x.ll, rawX 16 x.srv, rawX 18 x.loc]
def ngRows (T : LTab) (s : ByteArray) (k : Nat) : List (Nat × XRow) := [(0, .one 9 true [XT s]), (1, .one 33 true [.sl 2 1 0 (lenI (ngL T s k))]), (2, .vec 3 true (lenI (ngL T s k)) 1 fun j => [XI (getI (ngL T s k) j)])]
def cxY : Cx := { cx0 with C := [(21, dotC)] }
def s0V (T : LTab) (l : Nat) (e : TypeId) (ap : Bool) (K : XS → Prop) : Prop :=
 K { s := [((10 : Nat), XI 0), ((9 : Nat), XV.agg [XB T.l0.live, XI T.l0.gen, XV.fz T.l0.dom.n 1 fun (j : Nat) => [XT (T.l0.dom.g j)], XB T.l0.dft, XB T.l0.ll, XV.fz T.l0.srv.n 16 T.l0.srv.g, XV.fz T.l0.loc.n 18 T.l0.loc.g, XB T.l1.live, XI T.l1.gen, XV.fz T.l1.dom.n 1 fun (j : Nat) => [XT (T.l1.dom.g j)], XB T.l1.dft, XB T.l1.ll, XV.fz T.l1.srv.n 16 T.l1.srv.g, XV.fz T.l1.loc.n 18 T.l1.loc.g, XB T.l2.live, XI T.l2.gen, XV.fz T.l2.dom.n 1 fun (j : Nat) => [XT (T.l2.dom.g j)], XB T.l2.dft, XB T.l2.ll, XV.fz T.l2.srv.n 16 T.l2.srv.g, XV.fz T.l2.loc.n 18 T.l2.loc.g, XB T.l3.live, XI T.l3.gen, XV.fz T.l3.dom.n 1 fun (j : Nat) => [XT (T.l3.dom.g j)], XB T.l3.dft, XB T.l3.ll, XV.fz T.l3.srv.n 16 T.l3.srv.g, XV.fz T.l3.loc.n 18 T.l3.loc.g]), ((8 : Nat), XV.ptr 0 0 0 ((0 : Nat))), ((7 : Nat), XV.ptr 0 0 0 0), ((6 : Nat), XV.ptr 0 0 0 0), ((0 : Nat), XV.ptr 0 0 0 0), ((1 : Nat), XV.v (AV.p (Value.func (Fn.yield l) #[] #[])))], h := [((0 : Nat), XRow.one e ap [XB T.l0.live, XI T.l0.gen, XV.fz T.l0.dom.n 1 fun (j : Nat) => [XT (T.l0.dom.g j)], XB T.l0.dft, XB T.l0.ll, XV.fz T.l0.srv.n 16 T.l0.srv.g, XV.fz T.l0.loc.n 18 T.l0.loc.g, XB T.l1.live, XI T.l1.gen, XV.fz T.l1.dom.n 1 fun (j : Nat) => [XT (T.l1.dom.g j)], XB T.l1.dft, XB T.l1.ll, XV.fz T.l1.srv.n 16 T.l1.srv.g, XV.fz T.l1.loc.n 18 T.l1.loc.g, XB T.l2.live, XI T.l2.gen, XV.fz T.l2.dom.n 1 fun (j : Nat) => [XT (T.l2.dom.g j)], XB T.l2.dft, XB T.l2.ll, XV.fz T.l2.srv.n 16 T.l2.srv.g, XV.fz T.l2.loc.n 18 T.l2.loc.g, XB T.l3.live, XI T.l3.gen, XV.fz T.l3.dom.n 1 fun (j : Nat) => [XT (T.l3.dom.g j)], XB T.l3.dft, XB T.l3.ll, XV.fz T.l3.srv.n 16 T.l3.srv.g, XV.fz T.l3.loc.n 18 T.l3.loc.g, XV.top, XV.top, XV.top, XV.top, XI T.g])], nx := (1 : Nat), pn := true : XS }
theorem s0V_eq (T : LTab) (l : Nat) (e : TypeId) (ap : Bool) (K : XS → Prop) : s0V T l e ap K = (xwp cx0 24 lv0 .nil ⟨[(0, .ptr 0 0 0 0), (1, YV l)], [(0, .one e ap (tabX T))], 1, true, []⟩ (nrm K)) := by kernel_rfl
def s1V (k : Int) (l : Nat) (c9 : XV) (K : XS → Prop) : Prop :=
 K { s := [((11 : Nat), XB (decide (k < (4 : Int)))), ((1 : Nat), XV.v (AV.p (Value.func (Fn.yield l) #[] #[]))), ((9 : Nat), c9), ((10 : Nat), XI k)], h := [], nx := (0 : Nat) : XS }
theorem s1V_eq (k : Int) (l : Nat) (c9 : XV) (K : XS → Prop) : s1V k l c9 K = (xwp cx0 24 lv1 .nil ⟨[(1, YV l), (9, c9), (10, XI k)], [], 0, false, []⟩ (nrm K)) := by kernel_rfl
def s2V (T : LTab) (k : Int) (l : Nat) (K : XS → Prop) : Prop :=
 (k = (0 : Int) ∨ k = (1 : Int) ∨ k = (2 : Int) ∨ k = (3 : Int) ∨ False) ∧ (k = (0 : Int) → (0 : Int) ≤ (0 : Int) ∧ (0 : Int) < (↑(4 : Nat) : Int) ∧ K { s := [((4 : Nat), XI 0), ((5 : Nat), XV.ptr 0 0 0 0), ((13 : Nat), XV.agg [XB T.l0.live, XI T.l0.gen, XV.fz T.l0.dom.n 1 fun (j : Nat) => [XT (T.l0.dom.g j)], XB T.l0.dft, XB T.l0.ll, XV.fz T.l0.srv.n 16 T.l0.srv.g, XV.fz T.l0.loc.n 18 T.l0.loc.g]), ((12 : Nat), XI 0), ((10 : Nat), XI 0), ((1 : Nat), XV.v (AV.p (Value.func (Fn.yield l) #[] #[]))), ((9 : Nat), XV.agg [XB T.l0.live, XI T.l0.gen, XV.fz T.l0.dom.n 1 fun (j : Nat) => [XT (T.l0.dom.g j)], XB T.l0.dft, XB T.l0.ll, XV.fz T.l0.srv.n 16 T.l0.srv.g, XV.fz T.l0.loc.n 18 T.l0.loc.g, XB T.l1.live, XI T.l1.gen, XV.fz T.l1.dom.n 1 fun (j : Nat) => [XT (T.l1.dom.g j)], XB T.l1.dft, XB T.l1.ll, XV.fz T.l1.srv.n 16 T.l1.srv.g, XV.fz T.l1.loc.n 18 T.l1.loc.g, XB T.l2.live, XI T.l2.gen, XV.fz T.l2.dom.n 1 fun (j : Nat) => [XT (T.l2.dom.g j)], XB T.l2.dft, XB T.l2.ll, XV.fz T.l2.srv.n 16 T.l2.srv.g, XV.fz T.l2.loc.n 18 T.l2.loc.g, XB T.l3.live, XI T.l3.gen, XV.fz T.l3.dom.n 1 fun (j : Nat) => [XT (T.l3.dom.g j)], XB T.l3.dft, XB T.l3.ll, XV.fz T.l3.srv.n 16 T.l3.srv.g, XV.fz T.l3.loc.n 18 T.l3.loc.g]), ((10 : Nat), XI k)], h := [((0 : Nat), XRow.one 26 true [XB T.l0.live, XI T.l0.gen, XV.fz T.l0.dom.n 1 fun (j : Nat) => [XT (T.l0.dom.g j)], XB T.l0.dft, XB T.l0.ll, XV.fz T.l0.srv.n 16 T.l0.srv.g, XV.fz T.l0.loc.n 18 T.l0.loc.g])], nx := (0 : Nat) + (1 : Nat) : XS }) ∧ (k = (1 : Int) → (0 : Int) ≤ (1 : Int) ∧ (1 : Int) < (↑(4 : Nat) : Int) ∧ K { s := [((4 : Nat), XI 1), ((5 : Nat), XV.ptr 0 0 0 0), ((13 : Nat), XV.agg [XB T.l1.live, XI T.l1.gen, XV.fz T.l1.dom.n 1 fun (j : Nat) => [XT (T.l1.dom.g j)], XB T.l1.dft, XB T.l1.ll, XV.fz T.l1.srv.n 16 T.l1.srv.g, XV.fz T.l1.loc.n 18 T.l1.loc.g]), ((12 : Nat), XI 1), ((10 : Nat), XI 1), ((1 : Nat), XV.v (AV.p (Value.func (Fn.yield l) #[] #[]))), ((9 : Nat), XV.agg [XB T.l0.live, XI T.l0.gen, XV.fz T.l0.dom.n 1 fun (j : Nat) => [XT (T.l0.dom.g j)], XB T.l0.dft, XB T.l0.ll, XV.fz T.l0.srv.n 16 T.l0.srv.g, XV.fz T.l0.loc.n 18 T.l0.loc.g, XB T.l1.live, XI T.l1.gen, XV.fz T.l1.dom.n 1 fun (j : Nat) => [XT (T.l1.dom.g j)], XB T.l1.dft, XB T.l1.ll, XV.fz T.l1.srv.n 16 T.l1.srv.g, XV.fz T.l1.loc.n 18 T.l1.loc.g, XB T.l2.live, XI T.l2.gen, XV.fz T.l2.dom.n 1 fun (j : Nat) => [XT (T.l2.dom.g j)], XB T.l2.dft, XB T.l2.ll, XV.fz T.l2.srv.n 16 T.l2.srv.g, XV.fz T.l2.loc.n 18 T.l2.loc.g, XB T.l3.live, XI T.l3.gen, XV.fz T.l3.dom.n 1 fun (j : Nat) => [XT (T.l3.dom.g j)], XB T.l3.dft, XB T.l3.ll, XV.fz T.l3.srv.n 16 T.l3.srv.g, XV.fz T.l3.loc.n 18 T.l3.loc.g]), ((10 : Nat), XI k)], h := [((0 : Nat), XRow.one 26 true [XB T.l1.live, XI T.l1.gen, XV.fz T.l1.dom.n 1 fun (j : Nat) => [XT (T.l1.dom.g j)], XB T.l1.dft, XB T.l1.ll, XV.fz T.l1.srv.n 16 T.l1.srv.g, XV.fz T.l1.loc.n 18 T.l1.loc.g])], nx := (0 : Nat) + (1 : Nat) : XS }) ∧ (k = (2 : Int) → (0 : Int) ≤ (2 : Int) ∧ (2 : Int) < (↑(4 : Nat) : Int) ∧ K { s := [((4 : Nat), XI 2), ((5 : Nat), XV.ptr 0 0 0 0), ((13 : Nat), XV.agg [XB T.l2.live, XI T.l2.gen, XV.fz T.l2.dom.n 1 fun (j : Nat) => [XT (T.l2.dom.g j)], XB T.l2.dft, XB T.l2.ll, XV.fz T.l2.srv.n 16 T.l2.srv.g, XV.fz T.l2.loc.n 18 T.l2.loc.g]), ((12 : Nat), XI 2), ((10 : Nat), XI 2), ((1 : Nat), XV.v (AV.p (Value.func (Fn.yield l) #[] #[]))), ((9 : Nat), XV.agg [XB T.l0.live, XI T.l0.gen, XV.fz T.l0.dom.n 1 fun (j : Nat) => [XT (T.l0.dom.g j)], XB T.l0.dft, XB T.l0.ll, XV.fz T.l0.srv.n 16 T.l0.srv.g, XV.fz T.l0.loc.n 18 T.l0.loc.g, XB T.l1.live, XI T.l1.gen, XV.fz T.l1.dom.n 1 fun (j : Nat) => [XT (T.l1.dom.g j)], XB T.l1.dft, XB T.l1.ll, XV.fz T.l1.srv.n 16 T.l1.srv.g, XV.fz T.l1.loc.n 18 T.l1.loc.g, XB T.l2.live, XI T.l2.gen, XV.fz T.l2.dom.n 1 fun (j : Nat) => [XT (T.l2.dom.g j)], XB T.l2.dft, XB T.l2.ll, XV.fz T.l2.srv.n 16 T.l2.srv.g, XV.fz T.l2.loc.n 18 T.l2.loc.g, XB T.l3.live, XI T.l3.gen, XV.fz T.l3.dom.n 1 fun (j : Nat) => [XT (T.l3.dom.g j)], XB T.l3.dft, XB T.l3.ll, XV.fz T.l3.srv.n 16 T.l3.srv.g, XV.fz T.l3.loc.n 18 T.l3.loc.g]), ((10 : Nat), XI k)], h := [((0 : Nat), XRow.one 26 true [XB T.l2.live, XI T.l2.gen, XV.fz T.l2.dom.n 1 fun (j : Nat) => [XT (T.l2.dom.g j)], XB T.l2.dft, XB T.l2.ll, XV.fz T.l2.srv.n 16 T.l2.srv.g, XV.fz T.l2.loc.n 18 T.l2.loc.g])], nx := (0 : Nat) + (1 : Nat) : XS }) ∧ (k = (3 : Int) → (0 : Int) ≤ (3 : Int) ∧ (3 : Int) < (↑(4 : Nat) : Int) ∧ K { s := [((4 : Nat), XI 3), ((5 : Nat), XV.ptr 0 0 0 0), ((13 : Nat), XV.agg [XB T.l3.live, XI T.l3.gen, XV.fz T.l3.dom.n 1 fun (j : Nat) => [XT (T.l3.dom.g j)], XB T.l3.dft, XB T.l3.ll, XV.fz T.l3.srv.n 16 T.l3.srv.g, XV.fz T.l3.loc.n 18 T.l3.loc.g]), ((12 : Nat), XI 3), ((10 : Nat), XI 3), ((1 : Nat), XV.v (AV.p (Value.func (Fn.yield l) #[] #[]))), ((9 : Nat), XV.agg [XB T.l0.live, XI T.l0.gen, XV.fz T.l0.dom.n 1 fun (j : Nat) => [XT (T.l0.dom.g j)], XB T.l0.dft, XB T.l0.ll, XV.fz T.l0.srv.n 16 T.l0.srv.g, XV.fz T.l0.loc.n 18 T.l0.loc.g, XB T.l1.live, XI T.l1.gen, XV.fz T.l1.dom.n 1 fun (j : Nat) => [XT (T.l1.dom.g j)], XB T.l1.dft, XB T.l1.ll, XV.fz T.l1.srv.n 16 T.l1.srv.g, XV.fz T.l1.loc.n 18 T.l1.loc.g, XB T.l2.live, XI T.l2.gen, XV.fz T.l2.dom.n 1 fun (j : Nat) => [XT (T.l2.dom.g j)], XB T.l2.dft, XB T.l2.ll, XV.fz T.l2.srv.n 16 T.l2.srv.g, XV.fz T.l2.loc.n 18 T.l2.loc.g, XB T.l3.live, XI T.l3.gen, XV.fz T.l3.dom.n 1 fun (j : Nat) => [XT (T.l3.dom.g j)], XB T.l3.dft, XB T.l3.ll, XV.fz T.l3.srv.n 16 T.l3.srv.g, XV.fz T.l3.loc.n 18 T.l3.loc.g]), ((10 : Nat), XI k)], h := [((0 : Nat), XRow.one 26 true [XB T.l3.live, XI T.l3.gen, XV.fz T.l3.dom.n 1 fun (j : Nat) => [XT (T.l3.dom.g j)], XB T.l3.dft, XB T.l3.ll, XV.fz T.l3.srv.n 16 T.l3.srv.g, XV.fz T.l3.loc.n 18 T.l3.loc.g])], nx := (0 : Nat) + (1 : Nat) : XS }) ∧ True
theorem s2V_eq (T : LTab) (k : Int) (l : Nat) (K : XS → Prop) : s2V T k l K = (xwp cx0 24 lv2 (mkSc { cas := [(2, (10, [0, 1, 2, 3]))] } lv2) ⟨[(1, YV l), (9, .agg (cl28 T)), (10, XI k)], [], 0, false, []⟩ (nrm K)) := by kernel_rfl
def s3V (x : Lnk) (k : Int) (l : Nat) (c9 : XV) (K : XS → Prop) : Prop :=
 K { s := [((22 : Nat), XB false), ((21 : Nat), XV.v (AV.p undef)), ((20 : Nat), XV.v (AV.p undef)), ((19 : Nat), XV.v (AV.p undef)), ((18 : Nat), XV.v (AV.p undef)), ((17 : Nat), XV.v (AV.p undef)), ((16 : Nat), XB false), ((16 : Nat), XB false), ((15 : Nat), XB false), ((14 : Nat), XV.ptr 0 0 0 ((0 : Nat))), ((1 : Nat), XV.v (AV.p (Value.func (Fn.yield l) #[] #[]))), ((4 : Nat), XI k), ((5 : Nat), XV.ptr 0 0 0 0), ((9 : Nat), c9), ((10 : Nat), XI k)], h := [((0 : Nat), XRow.one (26 : TypeId) true [XB false, XI x.gen, XV.fz x.dom.n 1 fun (j : Nat) => [XT (x.dom.g j)], XB x.dft, XB x.ll, XV.fz x.srv.n 16 x.srv.g, XV.fz x.loc.n 18 x.loc.g])], nx := (1 : Nat) : XS }
theorem s3V_eq (x : Lnk) (k : Int) (l : Nat) (c9 : XV) (K : XS → Prop) : s3V x k l c9 K = (xwp cx0 24 lv3 (mkSc { gdec := [3] } lv3) ⟨[(1, YV l), (4, XI k), (5, .ptr 0 0 0 0), (9, c9), (10, XI k)], [(0, .one 26 true (deadX x))], 1, false, []⟩ (nrm K)) := by kernel_rfl
def s5V (x : Lnk) (k : Int) (l : Nat) (c9 : XV) (K : XS → Prop) : Prop :=
 K { s := [((19 : Nat), XV.agg [XB true, XI x.gen, XV.fz x.dom.n 1 fun (j : Nat) => [XT (x.dom.g j)], XB x.dft, XB x.ll, XV.fz x.srv.n 16 x.srv.g, XV.fz x.loc.n 18 x.loc.g]), ((18 : Nat), XI k), ((17 : Nat), XV.v (AV.p (Value.func (Fn.yield l) #[] #[]))), ((16 : Nat), XB true), ((16 : Nat), XB true), ((15 : Nat), XB true), ((14 : Nat), XV.ptr 0 0 0 ((0 : Nat))), ((1 : Nat), XV.v (AV.p (Value.func (Fn.yield l) #[] #[]))), ((4 : Nat), XI k), ((5 : Nat), XV.ptr 0 0 0 0), ((9 : Nat), c9), ((10 : Nat), XI k)], h := [((0 : Nat), XRow.one (26 : TypeId) true [XB true, XI x.gen, XV.fz x.dom.n 1 fun (j : Nat) => [XT (x.dom.g j)], XB x.dft, XB x.ll, XV.fz x.srv.n 16 x.srv.g, XV.fz x.loc.n 18 x.loc.g])], nx := (1 : Nat) : XS }
theorem s5V_eq (x : Lnk) (k : Int) (l : Nat) (c9 : XV) (K : XS → Prop) : s5V x k l c9 K = (xgf cx0 24 (opsC lv3) true ((opsC lv3).take 6) ⟨[(1, YV l), (4, XI k), (5, .ptr 0 0 0 0), (9, c9), (10, XI k)], [(0, .one 26 true (liveX x))], 1, false, []⟩ [] K) := by kernel_rfl
def s6V (k : Int) (l : Nat) (c9 : XV) (K : XS → Prop) : Prop :=
 K { s := [((22 : Nat), XB (!true)), ((21 : Nat), XB (!true)), ((16 : Nat), XB true), ((16 : Nat), XB true), ((20 : Nat), XB true), ((1 : Nat), XV.v (AV.p (Value.func (Fn.yield l) #[] #[]))), ((9 : Nat), c9), ((10 : Nat), XI k)], h := [], nx := (0 : Nat) : XS }
theorem s6V_eq (k : Int) (l : Nat) (c9 : XV) (K : XS → Prop) : s6V k l c9 K = (xgf cx0 24 (opsC lv3) true ((opsC lv3).drop 7) ⟨[(16, XB true), (20, XB true), (1, YV l), (9, c9), (10, XI k)], [], 0, false, []⟩ [] K) := by kernel_rfl
def s4V (k : Int) (l : Nat) (c9 : XV) (K : XS → Prop) : Prop :=
 in64 (k + (1 : Int)) ∧ K { s := [((10 : Nat), XI (k + (1 : Int))), ((23 : Nat), XI (k + (1 : Int))), ((1 : Nat), XV.v (AV.p (Value.func (Fn.yield l) #[] #[]))), ((9 : Nat), c9), ((10 : Nat), XI k)], h := [], nx := (0 : Nat) : XS }
theorem s4V_eq (k : Int) (l : Nat) (c9 : XV) (K : XS → Prop) : s4V k l c9 K = (xwp cx0 24 lv4 .nil ⟨[(1, YV l), (9, c9), (10, XI k)], [], 0, false, []⟩ (nrm K)) := by kernel_rfl
def s7V (g : Nat) (s : ByteArray) (K : XS → Prop) : Prop :=
 K { s := [((4 : Nat), Xnil), ((3 : Nat), XV.ptr 0 0 0 0), ((0 : Nat), XV.v (AV.ptr g 0)), ((1 : Nat), XT s)], h := [((0 : Nat), XRow.one 9 true [XT s])], nx := (0 : Nat) + (1 : Nat) : XS }
theorem s7V_eq (g : Nat) (s : ByteArray) (K : XS → Prop) : s7V g s K = (xwp cx0 24 (cL ngBody) .nil ⟨[(0, .v (.ptr g 0)), (1, XT s)], [], 0, false, []⟩ (nrm K)) := by kernel_rfl
def s8V (g : Nat) (s : ByteArray) (K : XS → Prop) : Prop :=
 K { s := [((5 : Nat), XV.ptr 1 0 0 0), ((0 : Nat), XV.v (AV.ptr g 0)), ((3 : Nat), XV.ptr 0 0 0 0)], h := [((1 : Nat), XRow.one 33 true [Xnil]), ((0 : Nat), XRow.one (9 : TypeId) true [XT s])], nx := (1 : Nat) + (1 : Nat) : XS }
theorem s8V_eq (g : Nat) (s : ByteArray) (K : XS → Prop) : s8V g s K = (xwp cx0 24 (cL (cR ngBody)) .nil ⟨[(0, .v (.ptr g 0)), (3, .ptr 0 0 0 0)], [(0, .one 9 true [XT s])], 1, false, []⟩ (nrm K)) := by kernel_rfl
def raV (T : LTab) (s : ByteArray) (j : Nat) (x : Lnk) (k : Int) (K : XS → Prop) : Prop :=
 K { s := [((7 : Nat), XV.ptr 3 0 0 0), ((6 : Nat), XI k), ((3 : Nat), XV.ptr 0 0 0 0), ((5 : Nat), XV.ptr 1 0 0 0), ((10 : Nat), XI k), ((11 : Nat), XV.agg [XB x.live, XI x.gen, XV.fz x.dom.n 1 fun (j : Nat) => [XT (x.dom.g j)], XB x.dft, XB x.ll, XV.fz x.srv.n 16 x.srv.g, XV.fz x.loc.n 18 x.loc.g])], h := [((3 : Nat), XRow.one 26 true [XB x.live, XI x.gen, XV.fz x.dom.n 1 fun (j : Nat) => [XT (x.dom.g j)], XB x.dft, XB x.ll, XV.fz x.srv.n 16 x.srv.g, XV.fz x.loc.n 18 x.loc.g]), ((0 : Nat), XRow.one (9 : TypeId) true [XT s]), ((1 : Nat), XRow.one (33 : TypeId) true [XV.sl 2 1 0 (lenI (ngL T s j))]), ((2 : Nat), XRow.vec (3 : TypeId) true (lenI (ngL T s j)) 1 fun (j_1 : Nat) => [XI (getI (ngL T s j) j_1)])], nx := (3 : Nat) + (1 : Nat), gs := [XV.ptr 0 0 0 0, XV.ptr 1 0 0 0] : XS }
theorem raV_eq (T : LTab) (s : ByteArray) (j : Nat) (x : Lnk) (k : Int) (K : XS → Prop) : raV T s j x k K = (xwp cx0 24 (rfA ngF) .nil ⟨[(3, .ptr 0 0 0 0), (5, .ptr 1 0 0 0), (10, XI k), (11, .agg (lnkX x))], ngRows T s j, 3, false, [.ptr 0 0 0 0, .ptr 1 0 0 0]⟩ (nrm K)) := by kernel_rfl
def rbV (T : LTab) (s : ByteArray) (j : Nat) (x : Lnk) (k : Int) (K : XS → Prop) : Prop :=
 ((x.ll && cntB s ⟨#[46]⟩ == (0 : Int)) = true → lenI (ngL T s j) = lenI (ngL T s j) ∧ (lenI (ngL T s j) + (1 : Nat)) * (8 : Nat) ≤ (140737488355328 : Nat) ∧ lenI (ngL T s j) + (1 : Nat) ≤ (140737488355328 : Nat) ∧ K { s := [((22 : Nat), XV.sl 2 1 0 (lenI (ngL T s j) + (1 : Nat))), ((21 : Nat), XV.fz 1 1 fun (x : Nat) => [XI k]), ((20 : Nat), XI k), ((19 : Nat), XV.top), ((18 : Nat), XB (x.ll && cntB s ⟨#[46]⟩ == (0 : Int))), ((17 : Nat), XV.gd x.ll (some ((5 : Nat))) (XB (cntB s ⟨#[46]⟩ == (0 : Int)))), ((16 : Nat), XV.gd x.ll (some ((5 : Nat))) (XI (cntB s ⟨#[46]⟩))), ((15 : Nat), XV.gd x.ll (some ((5 : Nat))) (XT s)), ((14 : Nat), XB x.ll), ((13 : Nat), XB x.ll), ((12 : Nat), XV.ptr 3 0 0 ((4 : Nat))), ((3 : Nat), XV.ptr 0 0 0 0), ((5 : Nat), XV.ptr 1 0 0 0), ((6 : Nat), XI k), ((7 : Nat), XV.ptr 3 0 0 0)], h := [((1 : Nat), XRow.one (33 : TypeId) true [XV.sl 2 1 0 (lenI (ngL T s j) + (1 : Nat))]), ((2 : Nat), XRow.vec (3 : TypeId) true (lenI (ngL T s j) + (1 : Nat)) 1 fun (j_1 : Nat) => [Bool.rec (XI k) (XI (getI (ngL T s j) j_1)) (j_1.blt (lenI (ngL T s j)))]), ((3 : Nat), XRow.one (26 : TypeId) true [XB x.live, XI x.gen, XV.fz x.dom.n 1 fun (j : Nat) => [XT (x.dom.g j)], XB x.dft, XB x.ll, XV.fz x.srv.n 16 x.srv.g, XV.fz x.loc.n 18 x.loc.g]), ((0 : Nat), XRow.one (9 : TypeId) true [XT s])], nx := (4 : Nat), gs := [XV.ptr 0 0 0 0, XV.ptr 1 0 0 0] : XS }) ∧ ((x.ll && cntB s ⟨#[46]⟩ == (0 : Int)) = false → K { s := [((18 : Nat), XB (x.ll && cntB s ⟨#[46]⟩ == (0 : Int))), ((17 : Nat), XV.gd x.ll (some ((5 : Nat))) (XB (cntB s ⟨#[46]⟩ == (0 : Int)))), ((16 : Nat), XV.gd x.ll (some ((5 : Nat))) (XI (cntB s ⟨#[46]⟩))), ((15 : Nat), XV.gd x.ll (some ((5 : Nat))) (XT s)), ((14 : Nat), XB x.ll), ((13 : Nat), XB x.ll), ((12 : Nat), XV.ptr 3 0 0 ((4 : Nat))), ((3 : Nat), XV.ptr 0 0 0 0), ((5 : Nat), XV.ptr 1 0 0 0), ((6 : Nat), XI k), ((7 : Nat), XV.ptr 3 0 0 0)], h := [((3 : Nat), XRow.one (26 : TypeId) true [XB x.live, XI x.gen, XV.fz x.dom.n 1 fun (j : Nat) => [XT (x.dom.g j)], XB x.dft, XB x.ll, XV.fz x.srv.n 16 x.srv.g, XV.fz x.loc.n 18 x.loc.g]), ((0 : Nat), XRow.one (9 : TypeId) true [XT s]), ((1 : Nat), XRow.one (33 : TypeId) true [XV.sl 2 1 0 (lenI (ngL T s j))]), ((2 : Nat), XRow.vec (3 : TypeId) true (lenI (ngL T s j)) 1 fun (j_1 : Nat) => [XI (getI (ngL T s j) j_1)])], nx := (4 : Nat), gs := [XV.ptr 0 0 0 0, XV.ptr 1 0 0 0] : XS })
theorem rbV_eq (T : LTab) (s : ByteArray) (j : Nat) (x : Lnk) (k : Int) (K : XS → Prop) : rbV T s j x k K = (xwp cxY 24 (rfB ngF) (mkSc {} (rfB ngF)) ⟨[(3, .ptr 0 0 0 0), (5, .ptr 1 0 0 0), (6, XI k), (7, .ptr 3 0 0 0)], (3, .one 26 true (lnkX x)) :: ngRows T s j, 4, false, [.ptr 0 0 0 0, .ptr 1 0 0 0]⟩ (nrm K)) := by kernel_rfl
end Go.Proofs.YtaglpckihegmoaaDoorAv
namespace Go.Proofs.YtaglpckihegmoaaDoorAv
open Go Go.RowKit
section
variable {P : Program} {F : Fr} {ρ : Rho} {S : XS} {t : TM} {L : GH}
theorem Rel.tms {s' : List (Nat × XV)} {t' : TM} (h : Rel F ρ S t L) (hs : ∀ i, RV ρ (look s' i) (t' i)) : Rel F ρ { S with s := s' } t' L := ⟨hs, h.rw, h.inj, h.nx, h.fr, h.pin, h.gh⟩
theorem Rel.more {L' : GH} (h : Rel F ρ S t L) (hl : ∀ b r, L b = some r → L' b = some r) : Rel F ρ S t L' :=
 ⟨h.sl, fun id r hr => by
  rcases h.rw id r hr with ⟨g, row, h1, h2, h3⟩ | h1
  ·exact .inl ⟨g, row, h1, hl _ _ h2, h3⟩
  ·exact .inr h1, h.inj, h.nx, fun b r hb => ⟨hl _ _ (h.fr b r hb).1, (h.fr b r hb).2⟩, h.pin, h.gh⟩
theorem Rel.updF {f : GH} {n : Nat} {tg : List AV} {l : Nat} {r0 : Row} (h : Rel ⟨f, n, tg⟩ ρ S t L) (hf : f l = some r0) (r' : Row) : Rel ⟨upd f l r', n, tg⟩ ρ S t (upd L l r') :=
 ⟨h.sl, fun id r hr => by
  rcases h.rw id r hr with ⟨g, row, h1, h2, h3⟩ | h1
  ·have hne : g ≠ l := by rintro rfl; exact (h.fr g r0 hf).2 id (by rw [hr]; rfl) h1
   exact .inl ⟨g, row, h1, by rw [upd_ne _ _ _ _ hne]; exact h2, h3⟩
  ·exact .inr h1, h.inj, h.nx, fun b r hb => by
   by_cases hbl : b = l
   ·subst hbl
    change upd f b r' b = some r at hb
    rw [upd_same] at hb ⊢
    exact ⟨hb, (h.fr b r0 hf).2⟩
   ·change upd f l r' b = some r at hb
    rw [upd_ne _ _ _ _ hbl] at hb ⊢
    exact h.fr b r hb, h.pin, h.gh⟩
theorem nrm_elim {K : XS → Prop} {e : Exit} (h : nrm K e S) : e = .normal ∧ K S := by
 cases e <;> first | exact ⟨rfl, h⟩ | exact h.elim
theorem slot_pd (h : Rel F ρ S t L) {i : Nat} {x : XV} (hl : look S.s i = x) (hp : x.pd = true) : t i = toAV x := RV.pd x _ hp (hl ▸ h.sl i)
theorem look4 {ρ : Rho} {t : TM} {d1 d2 d3 d4 : Nat} {x1 x2 x3 x4 : XV} (h1 : RV ρ x1 (t d1)) (h2 : RV ρ x2 (t d2)) (h3 : RV ρ x3 (t d3)) (h4 : RV ρ x4 (t d4)) : ∀ i, RV ρ (look [(d1, x1), (d2, x2), (d3, x3), (d4, x4)] i) (t i) := by
 intro i
 rw [look_put]
 by_cases e1 : i = d1
 ·rw [if_pos e1, e1]; exact h1
 rw [if_neg e1, look_put]
 by_cases e2 : i = d2
 ·rw [if_pos e2, e2]; exact h2
 rw [if_neg e2, look_put]
 by_cases e3 : i = d3
 ·rw [if_pos e3, e3]; exact h3
 rw [if_neg e3, look_put]
 by_cases e4 : i = d4
 ·rw [if_pos e4, e4]; exact h4
 rw [if_neg e4]
 simp [look, RV]
end
def ngG : List XV := [.ptr 0 0 0 0, .ptr 1 0 0 0]
def ngI (FB : GH) (gn go : Nat) (T : LTab) (s : ByteArray) (k : Nat) (L : GH) : Prop :=
 ∃ ρ, Rel ⟨FB, 0, [.ptr gn 0, .ptr go 0]⟩ ρ ⟨[], ngRows T s k, 3, false, ngG⟩ (fun _ => .top) L
theorem ngI.more {FB : GH} {gn go : Nat} {T : LTab} {s : ByteArray} {k : Nat} {L L' : GH} (h : ngI FB gn go T s k L) (hl : ∀ b r, L b = some r → L' b = some r) : ngI FB gn go T s k L' :=
 let ⟨ρ, hR⟩ := h
 ⟨ρ, hR.more hl⟩
theorem ngI.dead {FB : GH} {gn go : Nat} {T : LTab} {s : ByteArray} {k : Nat} {L : GH} (h : ngI FB gn go T s k L) (hd : (T.at k).live = false) : ngI FB gn go T s (k + 1) L := by
 have e : ngL T s (k + 1) = ngL T s k := by rw [ngL, if_neg (by rw [ngB, hd, Bool.false_and]; decide)]
 unfold ngI ngRows at *
 rw [e]
 exact h
theorem ra_v (T : LTab) (s : ByteArray) (j : Nat) (x : Lnk) (k : Int) : raV T s j x k fun S => S.h = (3, .one 26 true (lnkX x)) :: ngRows T s j ∧ S.nx = 4 ∧ S.pn = false ∧ S.gs = ngG ∧ look S.s 3 = .ptr 0 0 0 0 ∧ look S.s 5 = .ptr 1 0 0 0 ∧ look S.s 6 = XI k ∧ look S.s 7 = .ptr 3 0 0 0 := by
 unfold raV
 exact ⟨rfl, rfl, rfl, rfl, rfl, rfl, rfl, rfl⟩
theorem lenI_ngL' (T : LTab) (s : ByteArray) (k : Nat) (h : k < 4) : lenI (ngL T s k) < 4 := by
 have := lenI_ngL T s k
 omega
theorem rb_v (T : LTab) (s : ByteArray) (k : Nat) (hk : k < 4) (hl : (T.at k).live = true) : rbV T s k (T.at k) k fun S => SM S ⟨[], ngRows T s (k + 1), 3, false, ngG⟩ := by
 have hlen := lenI_ngL' T s k hk
 have e0 : ngB (T.at k) s = ((T.at k).ll && cntB s ptT == 0) := by
  rw [ngB, hl, Bool.true_and]; congr 1
 unfold rbV
 refine ⟨fun h => ⟨rfl, by omega, by omega, ?_⟩, fun h => ?_⟩
 ·have e : ngL T s (k + 1) = ngL T s k ++ [(k : Int)] := by rw [ngL, if_pos (by rw [e0]; exact h)]
  unfold ngRows
  rw [e, lenI_app]
  refine ⟨rfl, ?_⟩
  refine ⟨⟨⟨rfl, rfl⟩, rfl, trivial⟩, ⟨⟨rfl, rfl⟩, rfl, trivial⟩, ⟨⟨rfl, rfl, rfl⟩, rfl, ?_⟩, rfl, rfl, trivial⟩
  intro j hj
  dsimp only
  rw [getI_app _ _ _ hj, brec]
  cases Nat.blt j (lenI (ngL T s k)) <;> rfl
 ·have e : ngL T s (k + 1) = ngL T s k := by rw [ngL, if_neg (by rw [e0]; show ¬ _ = true; rw [show ((T.at k).ll && cntB s ptT == 0) = false from h]; decide)]
  unfold ngRows
  rw [e]
  exact ⟨rfl, ⟨⟨rfl, rfl⟩, rfl, trivial⟩, ⟨⟨rfl, rfl⟩, rfl, trivial⟩, ⟨⟨rfl, rfl, rfl⟩, rfl, fun _ _ => rfl⟩, rfl, rfl, trivial⟩
theorem cxY_ok : cxY.ok Tryd.prog := cx0_ok.addC dot_ok
theorem ng_round {FB : GH} {gn go l D : Nat} {T : LTab} {s : ByteArray} {fn : FuncId} {tmps : Array Value} {rec : Loop} (hrec : rec = { state := .ready, pending := none, fn := fn, tmps := tmps, params := #[10, 11], assign := rfA ngF, body := rfB ngF, defers := D }) (hFB : FB l = some (rdyR rec)) (hsz : tmps.size = 24)
  (h3 : tmps.getD 3 undef = .pointer (some ⟨gn, 0, none⟩)) (h5 : tmps.getD 5 undef = .pointer (some ⟨go, 0, none⟩)) (k : Nat) (hk : k < 4) (hl : (T.at k).live = true) (L : GH) (hI : ngI FB gn go T s k L) :
  JY Tryd.prog l [.p (.int .i64 k), .agg (toAVL (lnkX (T.at k)))] L fun v L' => v = .p (.bool true) ∧ ngI FB gn go T s (k + 1) L' := by
 subst hrec
 obtain ⟨ρ, hR⟩ := hI
 have hg := hR.gh
 simp only [ngG, RVL, RV] at hg
 refine JY_of (N := 24) (p := 10) (q := 11) (t0 := fun i => if i = 3 then .ptr gn 0 else if i = 5 then .ptr go 0 else .top) (hR.fr l _ hFB).1 rfl rfl rfl hsz (by decide) (by decide) (by decide) (fun w i => ?_) ?_
 ·dsimp only
  by_cases e3 : i = 3
  ·subst e3; rw [if_pos rfl, h3]; simp [VS]
  by_cases e5 : i = 5
  ·subst e5; rw [if_neg e3, if_pos rfl, h5]; simp [VS]
  rw [if_neg e3, if_neg e5]; simp [VS]
 ·have hR1 : Rel ⟨FB, 0, [.ptr gn 0, .ptr go 0]⟩ ρ ⟨[(3, .ptr 0 0 0 0), (5, .ptr 1 0 0 0), (10, XI k), (11, .agg (lnkX (T.at k)))], ngRows T s k, 3, false, ngG⟩ (TM.put (TM.put (fun i => if i = 3 then .ptr gn 0 else if i = 5 then .ptr go 0 else .top) 10 (.p (.int .i64 k))) 11 (.agg (toAVL (lnkX (T.at k))))) L :=
   Rel.tms hR (look4 (by simpa [TM.put, RV] using hg.1) (by simpa [TM.put, RV] using hg.2.1) (by simp [TM.put, RV]) (by simp only [TM.put, RV]; exact ⟨_, rfl, pd_RVL _ _ rfl⟩))
  refine (xwp_ok cx0_ok _ _ _ _ _ _ _ (via (raV_eq T s k (T.at k) k _) (ra_v T s k (T.at k) k)) hR1).mono ?_
  rintro e t1 L1 ⟨ρ1, ⟨s1, h1, n1, p1, g1⟩, hS1, hq⟩
  obtain ⟨rfl, hq⟩ := nrm_elim hq
  obtain ⟨rfl, rfl, rfl, rfl, q3, q5, q6, q7⟩ := hq
  refine ⟨rfl, (hS1.fr l _ hFB).1, ?_⟩
  have hR2 : Rel ⟨FB, 0, [.ptr gn 0, .ptr go 0]⟩ ρ1 ⟨[(3, .ptr 0 0 0 0), (5, .ptr 1 0 0 0), (6, XI k), (7, .ptr 3 0 0 0)], (3, .one 26 true (lnkX (T.at k))) :: ngRows T s k, 4, false, ngG⟩ t1 L1 :=
   Rel.tms hS1 (look4 (q3 ▸ hS1.sl 3) (q5 ▸ hS1.sl 5) (q6 ▸ hS1.sl 6) (q7 ▸ hS1.sl 7))
  refine (xwp_ok cxY_ok _ _ _ _ _ _ _ (via (rbV_eq T s k (T.at k) k _) (rb_v T s k hk hl)) (hR2.updF hFB (bsyR _))).mono ?_
  rintro e t2 L2 ⟨ρ2, S2, hS2, hq⟩
  obtain ⟨rfl, hq⟩ := nrm_elim hq
  refine ⟨rfl, (hS2.fr l _ (upd_same _ _ _)).1, ?_⟩
  have hR4 := hS2.updF (upd_same _ _ _) (rdyR { state := .ready, pending := none, fn := fn, tmps := tmps, params := #[10, 11], assign := rfA ngF, body := rfB ngF, defers := D })
  rw [show upd (upd FB l (bsyR { state := .ready, pending := none, fn := fn, tmps := tmps, params := #[10, 11], assign := rfA ngF, body := rfB ngF, defers := D })) l (rdyR { state := .ready, pending := none, fn := fn, tmps := tmps, params := #[10, 11], assign := rfA ngF, body := rfB ngF, defers := D }) = FB from by
   funext b
   by_cases e : b = l
   ·subst e; rw [upd_same, hFB]
   ·rw [upd_ne _ _ _ _ e, upd_ne _ _ _ _ e]] at hR4
  exact ⟨_, Rel.tms (SM_ok hq hR4) (fun i => by simp [look, RV])⟩
end Go.Proofs.YtaglpckihegmoaaDoorAv
namespace Go.Proofs.YtaglpckihegmoaaDoorAv
open Go Go.RowKit
section
variable {P : Program} {F : Fr} {ρ : Rho} {S : XS} {t : TM} {L : GH}
theorem relF {s : List (Nat × XV)} (h : ∀ i, RV noRho (look s i) (t i)) : Rel ⟨L, 0, []⟩ noRho ⟨s, [], 0, false, []⟩ t L :=
 ⟨h, fun id r h => by simp [findR] at h, fun id _ _ h => by simp [findR] at h, fun _ _ => rfl, fun b r h => ⟨h, fun id hi => by simp [findR] at hi⟩, fun h => (by cases h), by simp [RVL]⟩
theorem look3 {ρ : Rho} {t : TM} {d1 d2 d3 : Nat} {x1 x2 x3 : XV} (h1 : RV ρ x1 (t d1)) (h2 : RV ρ x2 (t d2)) (h3 : RV ρ x3 (t d3)) : ∀ i, RV ρ (look [(d1, x1), (d2, x2), (d3, x3)] i) (t i) := by
 intro i
 rw [look_put]
 by_cases e1 : i = d1
 ·rw [if_pos e1, e1]; exact h1
 rw [if_neg e1, look_put]
 by_cases e2 : i = d2
 ·rw [if_pos e2, e2]; exact h2
 rw [if_neg e2, look_put]
 by_cases e3 : i = d3
 ·rw [if_pos e3, e3]; exact h3
 rw [if_neg e3]
 simp [look, RV]
theorem look5 {ρ : Rho} {t : TM} {d1 d2 d3 d4 d5 : Nat} {x1 x2 x3 x4 x5 : XV} (h1 : RV ρ x1 (t d1)) (h2 : RV ρ x2 (t d2)) (h3 : RV ρ x3 (t d3)) (h4 : RV ρ x4 (t d4)) (h5 : RV ρ x5 (t d5)) : ∀ i, RV ρ (look [(d1, x1), (d2, x2), (d3, x3), (d4, x4), (d5, x5)] i) (t i) := by
 intro i
 rw [look_put]
 by_cases e1 : i = d1
 ·rw [if_pos e1, e1]; exact h1
 rw [if_neg e1]
 exact look4 h2 h3 h4 h5 i
end
theorem lv_code : bodyOf Tryd.f33 = .seq lv0 (.block 0 (.loop (.seq lv1 (.seq (.cond (.tmp 11) .skip (.exit 0)) (.seq (.block 1 (.seq lv2 (.seq lv3 (.cond (.tmp 22) .ret .skip)))) lv4))))) := by kernel_rfl
theorem lv3_code : ∃ id, lv3 = .region id (opsC lv3).toArray false := ⟨_, rfl⟩
theorem lv3_ops : ∃ ty pos af tys, opsC lv3 = (opsC lv3).take 6 ++ ⟨some 20, .call { callee := .value (.tmp 17), args := [Operand.tmp 18, .tmp 19].toArray, argTypes := tys }, ty, pos, af, some (2, true)⟩ :: (opsC lv3).drop 7 := ⟨_, _, _, _, rfl⟩
theorem lv3_g : (((opsC lv3).toArray)[2]?).bind (·.dst) = some 16 := rfl
def kV (l : Nat) (c9 : XV) (k : Nat) (S : XS) : Prop := look S.s 1 = YV l ∧ look S.s 9 = c9 ∧ look S.s 10 = XI k
theorem s0_v (T : LTab) (l : Nat) (e : TypeId) (ap : Bool) : s0V T l e ap fun S => (S.pn = true ∧ rowT S 0 e ap (tabX T)) ∧ kV l (.agg (cl28 T)) 0 S := by
 unfold s0V
 refine ⟨⟨rfl, ⟨rfl, rfl⟩, ?_⟩, rfl, rfl, rfl⟩
 and_intros <;> first | rfl | trivial | exact fun _ _ => rfl
theorem s1_v (k : Nat) (l : Nat) (c9 : XV) : s1V k l c9 fun S => look S.s 11 = XB (decide ((k : Int) < 4)) ∧ kV l c9 k S := by
 unfold s1V
 exact ⟨rfl, rfl, rfl, rfl⟩
theorem s2_v (T : LTab) (k : Nat) (hk : k < 4) (l : Nat) : s2V T k l fun S => (S.h = [(0, .one 26 true (lnkX (T.at k)))] ∧ S.nx = 1 ∧ S.pn = false ∧ S.gs = [] ∧ look S.s 4 = XI k ∧ look S.s 5 = .ptr 0 0 0 0) ∧ kV l (.agg (cl28 T)) k S := by
 unfold s2V
 refine ⟨by omega, fun h => ?_, fun h => ?_, fun h => ?_, fun h => ?_, trivial⟩
 ·obtain rfl : k = 0 := by omega
  exact ⟨by decide, by decide, ⟨rfl, rfl, rfl, rfl, rfl, rfl⟩, rfl, rfl, rfl⟩
 ·obtain rfl : k = 1 := by omega
  exact ⟨by decide, by decide, ⟨rfl, rfl, rfl, rfl, rfl, rfl⟩, rfl, rfl, rfl⟩
 ·obtain rfl : k = 2 := by omega
  exact ⟨by decide, by decide, ⟨rfl, rfl, rfl, rfl, rfl, rfl⟩, rfl, rfl, rfl⟩
 ·obtain rfl : k = 3 := by omega
  exact ⟨by decide, by decide, ⟨rfl, rfl, rfl, rfl, rfl, rfl⟩, rfl, rfl, rfl⟩
theorem s3_v (x : Lnk) (k : Nat) (l : Nat) (c9 : XV) : s3V x k l c9 fun S => look S.s 22 = XB false ∧ kV l c9 k S := by
 unfold s3V
 exact ⟨rfl, rfl, rfl, rfl⟩
theorem s5_v (x : Lnk) (k : Nat) (l : Nat) (c9 : XV) : s5V x k l c9 fun S => (look S.s 16 = XB true ∧ look S.s 17 = YV l ∧ look S.s 18 = XI k ∧ look S.s 19 = .agg (liveX x)) ∧ kV l c9 k S := by
 unfold s5V
 exact ⟨⟨rfl, rfl, rfl, rfl⟩, rfl, rfl, rfl⟩
theorem s6_v (k : Nat) (l : Nat) (c9 : XV) : s6V k l c9 fun S => look S.s 22 = XB false ∧ kV l c9 k S := by
 unfold s6V
 exact ⟨rfl, rfl, rfl, rfl⟩
theorem s4_v (k : Nat) (hk : k < 4) (l : Nat) (c9 : XV) : s4V k l c9 fun S => kV l c9 (k + 1) S := by
 unfold s4V
 refine ⟨by unfold in64; omega, rfl, rfl, rfl⟩
def kT (l : Nat) (T : LTab) (k : Nat) (t : TM) : Prop := t 1 = toAV (YV l) ∧ t 9 = toAV (.agg (cl28 T)) ∧ t 10 = toAV (XI k)
theorem kT_of {F : Fr} {ρ : Rho} {S : XS} {t : TM} {L : GH} {l k : Nat} {T : LTab} (hR : Rel F ρ S t L) (h : kV l (.agg (cl28 T)) k S) : kT l T k t := ⟨slot_pd hR h.1 rfl, slot_pd hR h.2.1 rfl, slot_pd hR h.2.2 rfl⟩
theorem kT_sl {ρ : Rho} {t : TM} {l k : Nat} {T : LTab} (h : kT l T k t) : RV ρ (YV l) (t 1) ∧ RV ρ (.agg (cl28 T)) (t 9) ∧ RV ρ (XI k) (t 10) := ⟨h.1 ▸ pd_RV _ _ rfl, h.2.1 ▸ pd_RV _ _ rfl, h.2.2 ▸ pd_RV _ _ rfl⟩
theorem kT_look {ρ : Rho} {t : TM} {l k : Nat} {T : LTab} (h : kT l T k t) : ∀ i, RV ρ (look [(1, YV l), (9, .agg (cl28 T)), (10, XI k)] i) (t i) := look3 (kT_sl h).1 (kT_sl h).2.1 (kT_sl h).2.2
theorem pieceF {X : Cx} (hX : X.ok Tryd.prog) {c : Code} {sc : Sc} {s : List (Nat × XV)} {K : XS → Prop} {Q : Exit → TM → GH → Prop} {t : TM} {L : GH} (hx : xwp X 24 c sc ⟨s, [], 0, false, []⟩ (nrm K)) (ht : ∀ i, RV noRho (look s i) (t i))
  (h : ∀ ρ S t' L', Rel ⟨L, 0, []⟩ ρ S t' L' → K S → Q .normal t' L') : J Tryd.prog 24 c Q t L := by
 refine (xwp_ok hX _ _ _ _ _ _ _ hx (relF ht)).mono ?_
 rintro e t' L' ⟨ρ, S, hS, hq⟩
 obtain ⟨rfl, hq⟩ := nrm_elim hq
 exact h _ _ _ _ hS hq
theorem dead_eq {x : Lnk} (h : x.live = false) : lnkX x = deadX x := by
 cases x; dsimp only at h; subst h; rfl
theorem live_eq {x : Lnk} (h : x.live = true) : lnkX x = liveX x := by
 cases x; dsimp only at h; subst h; rfl
section
variable {FB : GH} {gn go l : Nat} {T : LTab} {s : ByteArray}
def HYs (FB : GH) (gn go l : Nat) (T : LTab) (s : ByteArray) : Prop := ∀ k, k < 4 → (T.at k).live = true → ∀ L, ngI FB gn go T s k L → JY Tryd.prog l [.p (.int .i64 k), .agg (toAVL (lnkX (T.at k)))] L fun v L' => v = .p (.bool true) ∧ ngI FB gn go T s (k + 1) L'
def hdI (FB : GH) (gn go l : Nat) (T : LTab) (s : ByteArray) (n : Nat) (t : TM) (L : GH) : Prop := ∃ k, n + k = 4 ∧ kT l T k t ∧ ngI FB gn go T s k L
theorem lv_one (HY : HYs FB gn go l T s) {k : Nat} (hk : k < 4) {t : TM} {L : GH} (ht : kT l T k t) (hI : ngI FB gn go T s k L) :
  J Tryd.prog 24 (.seq lv2 (.seq lv3 (.cond (.tmp 22) .ret .skip))) (fun e t' L' => e = .normal ∧ kT l T k t' ∧ ngI FB gn go T s (k + 1) L') t L := by
 refine J.seq (pieceF cx0_ok (via (s2V_eq T k l _) (s2_v T k hk l)) (kT_look ht) ?_)
 rintro ρ ⟨s2, h2, n2, p2, g2⟩ t2 L2 hS2 ⟨⟨q1, q2, q3, q4, q5, q6⟩, hk2⟩
 dsimp only at q1 q2 q3 q4
 subst q1 q2 q3 q4
 have hI2 := hI.more fun b r hb => (hS2.fr b r hb).1
 have ht2 := kT_of hS2 hk2
 obtain ⟨k1, k9, k10⟩ := hk2
 refine J.seq ?_
 have hR2 : Rel ⟨L, 0, []⟩ ρ ⟨[(1, YV l), (4, XI k), (5, .ptr 0 0 0 0), (9, .agg (cl28 T)), (10, XI k)], [(0, .one 26 true (lnkX (T.at k)))], 1, false, []⟩ t2 L2 :=
  Rel.tms hS2 (look5 (k1 ▸ hS2.sl 1) (q5 ▸ hS2.sl 4) (q6 ▸ hS2.sl 5) (k9 ▸ hS2.sl 9) (k10 ▸ hS2.sl 10))
 cases hl : (T.at k).live with
 | false =>
  rw [dead_eq hl] at hR2
  refine (xwp_ok cx0_ok _ _ _ _ _ _ _ (via (s3V_eq (T.at k) k l (.agg (cl28 T)) _) (s3_v (T.at k) k l _)) hR2).mono ?_
  rintro e t3 L3 ⟨ρ3, S3, hS3, hq⟩
  obtain ⟨rfl, q22, hk3⟩ := nrm_elim hq
  have h22 : t3 22 = .p (.bool false) := slot_pd hS3 q22 rfl
  exact J.cond h22 (fun h => by cases h) fun _ => J.skip ⟨rfl, kT_of hS3 hk3, (hI.more fun b r hb => (hS3.fr b r hb).1).dead hl⟩
 | true =>
  rw [live_eq hl] at hR2
  obtain ⟨id, hc⟩ := lv3_code
  obtain ⟨ty, pos, af, tys, ho⟩ := lv3_ops
  have hJO : JO Tryd.prog 24 (opsC lv3).toArray (thn (J Tryd.prog 24 (.cond (.tmp 22) .ret .skip) (fun e t' L' => e = .normal ∧ kT l T k t' ∧ ngI FB gn go T s (k + 1) L')) (fun e t' L' => e = .normal ∧ kT l T k t' ∧ ngI FB gn go T s (k + 1) L')) ((opsC lv3).take 6 ++ ⟨some 20, .call { callee := .value (.tmp 17), args := [Operand.tmp 18, .tmp 19].toArray, argTypes := tys }, ty, pos, af, some (2, true)⟩ :: (opsC lv3).drop 7) t2 L2 := by
   refine JO.app2 _ ?_
   refine xgf_ok cx0_ok (m := true) _ _ _ _ _ _ _ (via (s5V_eq (T.at k) k l (.agg (cl28 T)) _) (s5_v (T.at k) k l _)) hR2 (DA.nil _) ?_
   rintro ρ3 S3 t3 L3 hS3 ⟨⟨q16, q17, q18, q19⟩, hk3⟩
   refine ⟨rfl, ?_⟩
   have h16 : t3 16 = .p (.bool true) := slot_pd hS3 q16 rfl
   have h17 : t3 17 = .p (.func (.yield l) #[] #[]) := slot_pd hS3 q17 rfl
   have h18 : t3 18 = .p (.int .i64 k) := slot_pd hS3 q18 rfl
   have h19 : t3 19 = .agg (toAVL (lnkX (T.at k))) := by rw [live_eq hl]; exact slot_pd hS3 q19 rfl
   have hI3 := hI.more fun b r hb => (hS3.fr b r hb).1
   have ht3 := kT_of hS3 hk3
   refine JO.on (s := 16) (by decide) lv3_g h16 rfl ?_
   refine JO.callY (N := 24) (o := .tmp 17) (xs := [.tmp 18, .tmp 19]) h17 rfl (by show JY _ _ [t3 18, t3 19] _ _; rw [h18, h19]; exact HY k hk hl L3 hI3) ?_
   rintro v L4 ⟨rfl, hI4⟩
   have hsl : ∀ i, RV noRho (look [(16, XB true), (20, XB true), (1, YV l), (9, .agg (cl28 T)), (10, XI k)] i) (t3.putO (some 20) (.p (.bool true)) i) := by
    have := @kT_sl noRho t3 l k T ht3
    refine look5 ?_ ?_ ?_ ?_ ?_
    ·show RV noRho (XB true) (TM.put t3 20 _ 16); rw [TM.put_ne _ _ _ _ (by decide), h16]; simp [RV]
    ·show RV noRho (XB true) (TM.put t3 20 _ 20); rw [TM.put_same]; simp [RV]
    ·show RV noRho _ (TM.put t3 20 _ 1); rw [TM.put_ne _ _ _ _ (by decide)]; exact this.1
    ·show RV noRho _ (TM.put t3 20 _ 9); rw [TM.put_ne _ _ _ _ (by decide)]; exact this.2.1
    ·show RV noRho _ (TM.put t3 20 _ 10); rw [TM.put_ne _ _ _ _ (by decide)]; exact this.2.2
   refine xgf_ok cx0_ok (m := true) _ _ _ _ _ _ _ (via (s6V_eq k l (.agg (cl28 T)) _) (s6_v k l _)) (relF hsl) (DA.nil _) ?_
   rintro ρ5 S5 t5 L5 hS5 ⟨q22, hk5⟩
   have h22 : t5 22 = .p (.bool false) := slot_pd hS5 q22 rfl
   exact J.cond h22 (fun h => by cases h) fun _ => J.skip ⟨rfl, kT_of hS5 hk5, hI4.more fun b r hb => (hS5.fr b r hb).1⟩
  rw [hc]
  rw [← ho] at hJO
  exact J.region hJO
theorem lv_all (HY : HYs FB gn go l T s) {g : Nat} {e : TypeId} {ap : Bool} {L : GH} (hL : L g = some ⟨e, ap, toAVL (tabX T)⟩) (hI : ngI FB gn go T s 0 L) :
  JF Tryd.prog 33 [.ptr g 0, .p (.func (.yield l) #[] #[])] L fun _ L' => ngI FB gn go T s 4 L' := by
 refine JF.body Tryd.func33 rfl (Nat.le_of_ble_eq_true rfl) ?_
 show J Tryd.prog 24 (bodyOf Tryd.f33) _ _ _
 rw [lv_code]
 refine J.seq ?_
 refine (xwp_ok cx0_ok _ _ _ _ _ _ _ (via (s0V_eq T l e ap _) (s0_v T l e ap)) (relT hL rfl (rest := [YV l]) rfl)).mono ?_
 rintro ex t1 L1 ⟨ρ1, S1, hS1, hq⟩
 obtain ⟨rfl, ⟨hpn, hrow⟩, hkV⟩ := nrm_elim hq
 have hpin := (hS1.pin hpn).1
 have eL : upd (del L g) g ⟨e, ap, toAVL (tabX T)⟩ = L := by
  funext b
  by_cases hb : b = g
  ·subst hb; rw [upd_same, hL]
  ·rw [upd_ne _ _ _ _ hb]; simp [del, hb]
 have hro := fun (w : World) (hw : ∀ g r, L1 g = some r → RowR L1 w g r) => row_outT hS1 hw hpin hrow rfl
 simp only [eL] at hro
 have hd : ∀ b, L1 b = none → L b = none := by
  intro b hb
  by_cases hbg : b = g
  ·subst hbg
   obtain ⟨e', ap', cs, hf⟩ := (hS1.pin hpn).2.2
   obtain ⟨row, hrw, -⟩ := (hS1.rw 0 _ hf).some_g hpin
   rw [hb] at hrw; cases hrw
  ·cases hLb : L b with
   | none => rfl
   | some r =>
    have := (hS1.fr b r (by simp [del, hbg, hLb])).1
    rw [hb] at this; cases this
 refine J.retell (t' := t1) (L' := L) hd (fun w hw => ⟨(hro w hw).1, fun i x hx => VS.ext (Ext.drop w hd) _ _ hx⟩) ?_
 refine J.block (J.loop (hdI FB gn go l T s) 4 ⟨0, rfl, kT_of hS1 hkV, hI⟩ ?_)
 rintro n t L ⟨k, hn, ht, hI⟩
 refine J.seq (pieceF cx0_ok (via (s1V_eq k l _ _) (s1_v k l (.agg (cl28 T)))) (kT_look ht) ?_)
 rintro ρ2 S2 t2 L2 hS2 ⟨q11, hk2⟩
 have h11 : t2 11 = .p (.bool (decide ((k : Int) < 4))) := slot_pd hS2 q11 rfl
 have hI2 := hI.more fun b r hb => (hS2.fr b r hb).1
 have ht2 := kT_of hS2 hk2
 refine J.seq (J.cond h11 (fun h => ?_) (fun h => ?_))
 ·have hk : k < 4 := by have := of_decide_eq_true h; omega
  refine J.skip (J.seq (J.block ((lv_one HY hk ht2 hI2).mono ?_)))
  rintro e3 t3 L3 ⟨rfl, ht3, hI3⟩
  refine pieceF cx0_ok (via (s4V_eq k l _ _) (s4_v k hk l (.agg (cl28 T)))) (kT_look ht3) ?_
  rintro ρ4 S4 t4 L4 hS4 hk4
  exact ⟨n - 1, by omega, k + 1, by omega, kT_of hS4 hk4, hI3.more fun b r hb => (hS4.fr b r hb).1⟩
 ·have hk : k = 4 := by have := of_decide_eq_false h; omega
  subst hk
  exact J.exit ⟨_, rfl, hI2⟩
end
end Go.Proofs.YtaglpckihegmoaaDoorAv
