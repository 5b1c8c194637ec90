/- Own texts, put together. -/
import Derived.Test.YtkjcoehblekpdaaGreatDoorMiD
import Derived.WalkKit
import Derived.Deep.LoopGhost
import Derived.Laws.OwnMore
import Derived.Laws.CopyRow
import Derived.Lib.ConvBytes
import Derived.Below
import Derived.KernelRfl
import Derived.Scope
import Derived.Laws.BytesString
import Derived.DataElems
import Derived.Laws.Tables
import Derived.Laws.Cells
import Derived.Laws.StructEq
import Derived.Laws.RangeString
import Derived.BigQuiet
import Derived.Test.YtkjcoehblekpdaaGreatDoorProg
import Derived.Shelf.Strings.Builder1
import Derived.Shelf.Strings.Builder2
import Derived.Shelf.Strings.OnBuilder
import Derived.Shelf.Small.Wraps
import Derived.Shelf.Strings.BuilderF
import Derived.Shelf.Strings.BuilderK
import Derived.Shelf.Utf8.RuneCount
import Derived.Shelf.Strings.Builder2Cap
import Derived.Shelf.Strconv.Itoa0
import Derived.Shelf.Strconv.Itoa1
import Derived.Shelf.LaysM
import Derived.Shelf.Strconv.Itoa2
import Derived.Shelf.Strconv.Itoa3
import Derived.Shelf.Strconv.Itoa4
import Derived.Shelf.Strconv.Clone
import Derived.Shelf.Strconv.SyntaxError
import Derived.Shelf.LaysC
import Derived.Shelf.Strconv.ToError
import Derived.Shelf.Strconv.Lower
import Derived.Shelf.Strconv.ParseUint10
import Derived.Shelf.Strconv.ParseUint10Empty
import Derived.Shelf.Strconv.ParseUint10Any
import Derived.Shelf.Strconv.RangeError
import Derived.Shelf.Strconv.ToErrorRange
import Derived.Shelf.Strconv.ParseUintEmpty
import Derived.Shelf.Strconv.ParseUint10b64
import Derived.Shelf.Strconv.ParseUint10b32
import Derived.Shelf.Strconv.ParseUint10b16
import Derived.Shelf.Strconv.ParseUint10b8
import Derived.Shelf.Strconv.ParseUint10At
import Derived.Shelf.Strings.Search1
import Derived.Shelf.Strings.Search2
import Derived.Shelf.Strings.Search3
import Derived.Shelf.Strings.Cut
import Derived.Shelf.Strings.Count
import Derived.Shelf.Strings.Shaped
import Derived.Shelf.Strings.LastIndex
import Derived.Shelf.Strings.Prefix
import Derived.Shelf.Strings.Split
import Derived.Shelf.Strings.Replace
import Derived.Shelf.Strings.Fold
import Derived.Shelf.Strings.SplitShaped
import Derived.Shelf.Unicode.Decode
import Derived.Shelf.Strings.RuneCount
import Derived.Shelf.Unicode.DecodeSlow
import Derived.Shelf.Unicode.DecodeAny
import Derived.Shelf.Unicode.ValidAny
import Derived.Shelf.Unicode.CaseLookup
import Derived.Shelf.Unicode.CaseConvert
import Derived.Shelf.Strings.BuilderCap
import Derived.OpenShut
import Derived.SliceStrings
import Derived.ChangeSlices
import Derived.SizedLaws
import Derived.Carry
import Derived.Lib.LaidTab
import Derived.Shelf.Vars
import Derived.WideKeyArr2
import Derived.Lay
import Derived.Deep.DeepHandedRow
import Derived.Test.YtkjcoehblekpdaaGreatDoorRows
import Derived.Lib.LaidU8T
import Derived.Lib.Replace
import Derived.Lib.AppendIntMem
import Derived.Laws.BitsLemmas
set_option linter.unusedVariables false
set_option linter.unusedSimpArgs false
set_option maxRecDepth 100000
namespace Go.Proofs.YtkjcoehblekpdaaGreatDoorAv
open Go Go.RowKit
def side (s : ByteArray) : List ByteArray := if s = ⟨#[]⟩ then [] else splitS s ⟨#[58]⟩
structure LR where
 l : List ByteArray
 r : List ByteArray
def sixP (p : LR) (i : Nat) : Nat := if i < p.l.length then i else i + (8 - p.l.length - p.r.length)
def sixQ (p : LR) (i : Nat) : ByteArray := if i < p.l.length then pcs p.l i else pcs p.r (i - p.l.length)
def sixA (p : LR) : Nat → Nat → Int
 | 0 => fun _ => 0
 | i + 1 => fun k => if k = 2 * sixP p i + 1 then IntKind.u8.wrap ((pu16 (sixQ p i)).2 : Int) else if k = 2 * sixP p i then IntKind.u8.wrap (((pu16 (sixQ p i)).2 : Int).fdiv (2 ^ 8)) else sixA p i k
def sixOk (p : LR) : Nat → Bool
 | 0 => true
 | i + 1 => sixOk p i && decide ((pu16 (sixQ p i)).1 = 0)
def sixL (s : ByteArray) : LR := ⟨side (cutB s ⟨#[58, 58]⟩).1, side (cutB s ⟨#[58, 58]⟩).2.1⟩
def six (s : ByteArray) : (Nat → Int) × Bool :=
 if ((sixL s).l.length + (sixL s).r.length ≤ 8 ∧ ((cutB s ⟨#[58, 58]⟩).2.2 = true ∨ (sixL s).l.length = 8)) ∧ sixOk (sixL s) ((sixL s).l.length + (sixL s).r.length) = true then (sixA (sixL s) ((sixL s).l.length + (sixL s).r.length), true) else (zeroA, false)
structure UX where
 u : Unit
def sixT (s : ByteArray) : Nat := (sixL s).l.length + (sixL s).r.length
def sixZ : XRow := .one 27 true [X8 0, X8 0, X8 0, X8 0, X8 0, X8 0, X8 0, X8 0, X8 0, X8 0, X8 0, X8 0, X8 0, X8 0, X8 0, X8 0]
def sixS (s : ByteArray) : List (Nat × XV) := [(2, .ptr 0 0 0 0), (3, XB false), (7, strsL (sixL s).l), (8, strsL (sixL s).r)]
def sixU (s : ByteArray) : List (Nat × XV) := [(9, .ptr 1 0 0 0), (51, .fz ((sixL s).l.length + (sixL s).r.length) 1 fun j => [XT (sixQ (sixL s) j)]), (52, XI ((sixT s : Nat) : Int))]
def siA (s : ByteArray) : Inv where
 σ := UX
 S := fun x => ⟨sixS s, [(0, sixZ)], 1, false, []⟩
 inv := fun x => sixT s ≤ 8 ∧ ((cutB s ⟨#[58, 58]⟩).2.2 = true ∨ (sixL s).l.length = 8)
 μ := fun x => 0
def siI (s : ByteArray) : Inv where
 σ := IXAd
 S := fun x => ⟨(53, XI x.i) :: sixS s ++ sixU s, [(0, sixZ), (1, .one 27 true (adr (sixA (sixL s) x.i)).cells)], 2, false, []⟩
 inv := fun x => x.i ≤ sixT s ∧ sixOk (sixL s) x.i = true
 μ := fun x => sixT s - x.i
def siE (s : ByteArray) : Env := { loops := [(0, siI s)], cuts := [(9, siA s)], frz := [(5, [7]), (7, [8])], dec := [15] }
def siV_c (s : ByteArray) (x : IXAd) :=
 ((↑(pu16 (sixQ (sixL s) (↑x.i : Int).toNat)).snd : Int).fdiv ((2 : Int) ^ (8 : Nat)))
def siV_b (s : ByteArray) (x : IXAd) (x' : (siI s).σ) :=
 (((27 : TypeId) = (27 : TypeId) ∧ true = true) ∧ (bif ((2 : Int) * (↑x.i : Int)).toNat.beq 0 then IntKind.u8.wrap (siV_c s x) else sixA (sixL s) x.i 0) = sixA (sixL s) x'.i 0 ∧ (bif ((2 : Int) * (↑x.i : Int) + (1 : Int)).toNat.beq ((1 : Nat)) then IntKind.u8.wrap (↑(pu16 (sixQ (sixL s) (↑x.i : Int).toNat)).snd : Int) else bif ((2 : Int) * (↑x.i : Int)).toNat.beq ((1 : Nat)) then IntKind.u8.wrap (siV_c s x) else sixA (sixL s) x.i 1) = sixA (sixL s) x'.i 1 ∧ (bif ((2 : Int) * (↑x.i : Int) + (1 : Int)).toNat.beq ((2 : Nat)) then IntKind.u8.wrap (↑(pu16 (sixQ (sixL s) (↑x.i : Int).toNat)).snd : Int) else bif ((2 : Int) * (↑x.i : Int)).toNat.beq ((2 : Nat)) then IntKind.u8.wrap (siV_c s x) else sixA (sixL s) x.i 2) = sixA (sixL s) x'.i 2 ∧ (bif ((2 : Int) * (↑x.i : Int) + (1 : Int)).toNat.beq ((3 : Nat)) then IntKind.u8.wrap (↑(pu16 (sixQ (sixL s) (↑x.i : Int).toNat)).snd : Int) else bif ((2 : Int) * (↑x.i : Int)).toNat.beq ((3 : Nat)) then IntKind.u8.wrap (siV_c s x) else sixA (sixL s) x.i 3) = sixA (sixL s) x'.i 3 ∧ (bif ((2 : Int) * (↑x.i : Int) + (1 : Int)).toNat.beq ((4 : Nat)) then IntKind.u8.wrap (↑(pu16 (sixQ (sixL s) (↑x.i : Int).toNat)).snd : Int) else bif ((2 : Int) * (↑x.i : Int)).toNat.beq ((4 : Nat)) then IntKind.u8.wrap (siV_c s x) else sixA (sixL s) x.i 4) = sixA (sixL s) x'.i 4 ∧ (bif ((2 : Int) * (↑x.i : Int) + (1 : Int)).toNat.beq ((5 : Nat)) then IntKind.u8.wrap (↑(pu16 (sixQ (sixL s) (↑x.i : Int).toNat)).snd : Int) else bif ((2 : Int) * (↑x.i : Int)).toNat.beq ((5 : Nat)) then IntKind.u8.wrap (siV_c s x) else sixA (sixL s) x.i 5) = sixA (sixL s) x'.i 5 ∧ (bif ((2 : Int) * (↑x.i : Int) + (1 : Int)).toNat.beq ((6 : Nat)) then IntKind.u8.wrap (↑(pu16 (sixQ (sixL s) (↑x.i : Int).toNat)).snd : Int) else bif ((2 : Int) * (↑x.i : Int)).toNat.beq ((6 : Nat)) then IntKind.u8.wrap (siV_c s x) else sixA (sixL s) x.i 6) = sixA (sixL s) x'.i 6 ∧ (bif ((2 : Int) * (↑x.i : Int) + (1 : Int)).toNat.beq ((7 : Nat)) then IntKind.u8.wrap (↑(pu16 (sixQ (sixL s) (↑x.i : Int).toNat)).snd : Int) else bif ((2 : Int) * (↑x.i : Int)).toNat.beq ((7 : Nat)) then IntKind.u8.wrap (siV_c s x) else sixA (sixL s) x.i 7) = sixA (sixL s) x'.i 7 ∧ (bif ((2 : Int) * (↑x.i : Int) + (1 : Int)).toNat.beq ((8 : Nat)) then IntKind.u8.wrap (↑(pu16 (sixQ (sixL s) (↑x.i : Int).toNat)).snd : Int) else bif ((2 : Int) * (↑x.i : Int)).toNat.beq ((8 : Nat)) then IntKind.u8.wrap (siV_c s x) else sixA (sixL s) x.i 8) = sixA (sixL s) x'.i 8 ∧ (bif ((2 : Int) * (↑x.i : Int) + (1 : Int)).toNat.beq ((9 : Nat)) then IntKind.u8.wrap (↑(pu16 (sixQ (sixL s) (↑x.i : Int).toNat)).snd : Int) else bif ((2 : Int) * (↑x.i : Int)).toNat.beq ((9 : Nat)) then IntKind.u8.wrap (siV_c s x) else sixA (sixL s) x.i 9) = sixA (sixL s) x'.i 9 ∧ (bif ((2 : Int) * (↑x.i : Int) + (1 : Int)).toNat.beq ((10 : Nat)) then IntKind.u8.wrap (↑(pu16 (sixQ (sixL s) (↑x.i : Int).toNat)).snd : Int) else bif ((2 : Int) * (↑x.i : Int)).toNat.beq ((10 : Nat)) then IntKind.u8.wrap (siV_c s x) else sixA (sixL s) x.i 10) = sixA (sixL s) x'.i 10 ∧ (bif ((2 : Int) * (↑x.i : Int) + (1 : Int)).toNat.beq ((11 : Nat)) then IntKind.u8.wrap (↑(pu16 (sixQ (sixL s) (↑x.i : Int).toNat)).snd : Int) else bif ((2 : Int) * (↑x.i : Int)).toNat.beq ((11 : Nat)) then IntKind.u8.wrap (siV_c s x) else sixA (sixL s) x.i 11) = sixA (sixL s) x'.i 11 ∧ (bif ((2 : Int) * (↑x.i : Int) + (1 : Int)).toNat.beq ((12 : Nat)) then IntKind.u8.wrap (↑(pu16 (sixQ (sixL s) (↑x.i : Int).toNat)).snd : Int) else bif ((2 : Int) * (↑x.i : Int)).toNat.beq ((12 : Nat)) then IntKind.u8.wrap (siV_c s x) else sixA (sixL s) x.i 12) = sixA (sixL s) x'.i 12 ∧ (bif ((2 : Int) * (↑x.i : Int) + (1 : Int)).toNat.beq ((13 : Nat)) then IntKind.u8.wrap (↑(pu16 (sixQ (sixL s) (↑x.i : Int).toNat)).snd : Int) else bif ((2 : Int) * (↑x.i : Int)).toNat.beq ((13 : Nat)) then IntKind.u8.wrap (siV_c s x) else sixA (sixL s) x.i 13) = sixA (sixL s) x'.i 13 ∧ (bif ((2 : Int) * (↑x.i : Int) + (1 : Int)).toNat.beq ((14 : Nat)) then IntKind.u8.wrap (↑(pu16 (sixQ (sixL s) (↑x.i : Int).toNat)).snd : Int) else bif ((2 : Int) * (↑x.i : Int)).toNat.beq ((14 : Nat)) then IntKind.u8.wrap (siV_c s x) else sixA (sixL s) x.i 14) = sixA (sixL s) x'.i 14 ∧ (bif ((2 : Int) * (↑x.i : Int) + (1 : Int)).toNat.beq ((15 : Nat)) then IntKind.u8.wrap (↑(pu16 (sixQ (sixL s) (↑x.i : Int).toNat)).snd : Int) else bif ((2 : Int) * (↑x.i : Int)).toNat.beq ((15 : Nat)) then IntKind.u8.wrap (siV_c s x) else sixA (sixL s) x.i 15) = sixA (sixL s) x'.i 15 ∧ True)
def siV_d (s : ByteArray) (x : IXAd) :=
 ((↑x.i : Int) + ((8 : Int) - (↑(sixL s).l.length : Int) - (↑(sixL s).r.length : Int)))
def siV_a (s : ByteArray) (x : IXAd) (x' : (siI s).σ) :=
 (((27 : TypeId) = (27 : TypeId) ∧ true = true) ∧ (bif ((2 : Int) * (siV_d s x) + (1 : Int)).toNat.beq 0 then IntKind.u8.wrap (↑(pu16 (sixQ (sixL s) (↑x.i : Int).toNat)).snd : Int) else bif ((2 : Int) * (siV_d s x)).toNat.beq 0 then IntKind.u8.wrap (siV_c s x) else sixA (sixL s) x.i 0) = sixA (sixL s) x'.i 0 ∧ (bif ((2 : Int) * (siV_d s x) + (1 : Int)).toNat.beq ((1 : Nat)) then IntKind.u8.wrap (↑(pu16 (sixQ (sixL s) (↑x.i : Int).toNat)).snd : Int) else bif ((2 : Int) * (siV_d s x)).toNat.beq ((1 : Nat)) then IntKind.u8.wrap (siV_c s x) else sixA (sixL s) x.i 1) = sixA (sixL s) x'.i 1 ∧ (bif ((2 : Int) * (siV_d s x) + (1 : Int)).toNat.beq ((2 : Nat)) then IntKind.u8.wrap (↑(pu16 (sixQ (sixL s) (↑x.i : Int).toNat)).snd : Int) else bif ((2 : Int) * (siV_d s x)).toNat.beq ((2 : Nat)) then IntKind.u8.wrap (siV_c s x) else sixA (sixL s) x.i 2) = sixA (sixL s) x'.i 2 ∧ (bif ((2 : Int) * (siV_d s x) + (1 : Int)).toNat.beq ((3 : Nat)) then IntKind.u8.wrap (↑(pu16 (sixQ (sixL s) (↑x.i : Int).toNat)).snd : Int) else bif ((2 : Int) * (siV_d s x)).toNat.beq ((3 : Nat)) then IntKind.u8.wrap (siV_c s x) else sixA (sixL s) x.i 3) = sixA (sixL s) x'.i 3 ∧ (bif ((2 : Int) * (siV_d s x) + (1 : Int)).toNat.beq ((4 : Nat)) then IntKind.u8.wrap (↑(pu16 (sixQ (sixL s) (↑x.i : Int).toNat)).snd : Int) else bif ((2 : Int) * (siV_d s x)).toNat.beq ((4 : Nat)) then IntKind.u8.wrap (siV_c s x) else sixA (sixL s) x.i 4) = sixA (sixL s) x'.i 4 ∧ (bif ((2 : Int) * (siV_d s x) + (1 : Int)).toNat.beq ((5 : Nat)) then IntKind.u8.wrap (↑(pu16 (sixQ (sixL s) (↑x.i : Int).toNat)).snd : Int) else bif ((2 : Int) * (siV_d s x)).toNat.beq ((5 : Nat)) then IntKind.u8.wrap (siV_c s x) else sixA (sixL s) x.i 5) = sixA (sixL s) x'.i 5 ∧ (bif ((2 : Int) * (siV_d s x) + (1 : Int)).toNat.beq ((6 : Nat)) then IntKind.u8.wrap (↑(pu16 (sixQ (sixL s) (↑x.i : Int).toNat)).snd : Int) else bif ((2 : Int) * (siV_d s x)).toNat.beq ((6 : Nat)) then IntKind.u8.wrap (siV_c s x) else sixA (sixL s) x.i 6) = sixA (sixL s) x'.i 6 ∧ (bif ((2 : Int) * (siV_d s x) + (1 : Int)).toNat.beq ((7 : Nat)) then IntKind.u8.wrap (↑(pu16 (sixQ (sixL s) (↑x.i : Int).toNat)).snd : Int) else bif ((2 : Int) * (siV_d s x)).toNat.beq ((7 : Nat)) then IntKind.u8.wrap (siV_c s x) else sixA (sixL s) x.i 7) = sixA (sixL s) x'.i 7 ∧ (bif ((2 : Int) * (siV_d s x) + (1 : Int)).toNat.beq ((8 : Nat)) then IntKind.u8.wrap (↑(pu16 (sixQ (sixL s) (↑x.i : Int).toNat)).snd : Int) else bif ((2 : Int) * (siV_d s x)).toNat.beq ((8 : Nat)) then IntKind.u8.wrap (siV_c s x) else sixA (sixL s) x.i 8) = sixA (sixL s) x'.i 8 ∧ (bif ((2 : Int) * (siV_d s x) + (1 : Int)).toNat.beq ((9 : Nat)) then IntKind.u8.wrap (↑(pu16 (sixQ (sixL s) (↑x.i : Int).toNat)).snd : Int) else bif ((2 : Int) * (siV_d s x)).toNat.beq ((9 : Nat)) then IntKind.u8.wrap (siV_c s x) else sixA (sixL s) x.i 9) = sixA (sixL s) x'.i 9 ∧ (bif ((2 : Int) * (siV_d s x) + (1 : Int)).toNat.beq ((10 : Nat)) then IntKind.u8.wrap (↑(pu16 (sixQ (sixL s) (↑x.i : Int).toNat)).snd : Int) else bif ((2 : Int) * (siV_d s x)).toNat.beq ((10 : Nat)) then IntKind.u8.wrap (siV_c s x) else sixA (sixL s) x.i 10) = sixA (sixL s) x'.i 10 ∧ (bif ((2 : Int) * (siV_d s x) + (1 : Int)).toNat.beq ((11 : Nat)) then IntKind.u8.wrap (↑(pu16 (sixQ (sixL s) (↑x.i : Int).toNat)).snd : Int) else bif ((2 : Int) * (siV_d s x)).toNat.beq ((11 : Nat)) then IntKind.u8.wrap (siV_c s x) else sixA (sixL s) x.i 11) = sixA (sixL s) x'.i 11 ∧ (bif ((2 : Int) * (siV_d s x) + (1 : Int)).toNat.beq ((12 : Nat)) then IntKind.u8.wrap (↑(pu16 (sixQ (sixL s) (↑x.i : Int).toNat)).snd : Int) else bif ((2 : Int) * (siV_d s x)).toNat.beq ((12 : Nat)) then IntKind.u8.wrap (siV_c s x) else sixA (sixL s) x.i 12) = sixA (sixL s) x'.i 12 ∧ (bif ((2 : Int) * (siV_d s x) + (1 : Int)).toNat.beq ((13 : Nat)) then IntKind.u8.wrap (↑(pu16 (sixQ (sixL s) (↑x.i : Int).toNat)).snd : Int) else bif ((2 : Int) * (siV_d s x)).toNat.beq ((13 : Nat)) then IntKind.u8.wrap (siV_c s x) else sixA (sixL s) x.i 13) = sixA (sixL s) x'.i 13 ∧ (bif ((2 : Int) * (siV_d s x) + (1 : Int)).toNat.beq ((14 : Nat)) then IntKind.u8.wrap (↑(pu16 (sixQ (sixL s) (↑x.i : Int).toNat)).snd : Int) else bif ((2 : Int) * (siV_d s x)).toNat.beq ((14 : Nat)) then IntKind.u8.wrap (siV_c s x) else sixA (sixL s) x.i 14) = sixA (sixL s) x'.i 14 ∧ (bif ((2 : Int) * (siV_d s x) + (1 : Int)).toNat.beq ((15 : Nat)) then IntKind.u8.wrap (↑(pu16 (sixQ (sixL s) (↑x.i : Int).toNat)).snd : Int) else bif ((2 : Int) * (siV_d s x)).toNat.beq ((15 : Nat)) then IntKind.u8.wrap (siV_c s x) else sixA (sixL s) x.i 15) = sixA (sixL s) x'.i 15 ∧ True)
def siV_e (s : ByteArray) :=
 ((0 : Int) = (six s).fst 0 ∧ (0 : Int) = (six s).fst 1 ∧ (0 : Int) = (six s).fst 2 ∧ (0 : Int) = (six s).fst 3 ∧ (0 : Int) = (six s).fst 4 ∧ (0 : Int) = (six s).fst 5 ∧ (0 : Int) = (six s).fst 6 ∧ (0 : Int) = (six s).fst 7 ∧ (0 : Int) = (six s).fst 8 ∧ (0 : Int) = (six s).fst 9 ∧ (0 : Int) = (six s).fst 10 ∧ (0 : Int) = (six s).fst 11 ∧ (0 : Int) = (six s).fst 12 ∧ (0 : Int) = (six s).fst 13 ∧ (0 : Int) = (six s).fst 14 ∧ (0 : Int) = (six s).fst 15 ∧ True)
def siV_f :=
 (((27 : TypeId) = (27 : TypeId) ∧ true = true) ∧ (0 : Int) = (0 : Int) ∧ (0 : Int) = (0 : Int) ∧ (0 : Int) = (0 : Int) ∧ (0 : Int) = (0 : Int) ∧ (0 : Int) = (0 : Int) ∧ (0 : Int) = (0 : Int) ∧ (0 : Int) = (0 : Int) ∧ (0 : Int) = (0 : Int) ∧ (0 : Int) = (0 : Int) ∧ (0 : Int) = (0 : Int) ∧ (0 : Int) = (0 : Int) ∧ (0 : Int) = (0 : Int) ∧ (0 : Int) = (0 : Int) ∧ (0 : Int) = (0 : Int) ∧ (0 : Int) = (0 : Int) ∧ (0 : Int) = (0 : Int) ∧ True)
def siV_g (s : ByteArray) (x : IXAd) :=
 (decide ((↑x.i : Int) < (↑(sixT s) : Int)) = false → (sixA (sixL s) x.i 0 = (six s).fst 0 ∧ sixA (sixL s) x.i 1 = (six s).fst 1 ∧ sixA (sixL s) x.i 2 = (six s).fst 2 ∧ sixA (sixL s) x.i 3 = (six s).fst 3 ∧ sixA (sixL s) x.i 4 = (six s).fst 4 ∧ sixA (sixL s) x.i 5 = (six s).fst 5 ∧ sixA (sixL s) x.i 6 = (six s).fst 6 ∧ sixA (sixL s) x.i 7 = (six s).fst 7 ∧ sixA (sixL s) x.i 8 = (six s).fst 8 ∧ sixA (sixL s) x.i 9 = (six s).fst 9 ∧ sixA (sixL s) x.i 10 = (six s).fst 10 ∧ sixA (sixL s) x.i 11 = (six s).fst 11 ∧ sixA (sixL s) x.i 12 = (six s).fst 12 ∧ sixA (sixL s) x.i 13 = (six s).fst 13 ∧ sixA (sixL s) x.i 14 = (six s).fst 14 ∧ sixA (sixL s) x.i 15 = (six s).fst 15 ∧ True) ∧ true = (six s).snd ∧ True)
def siV_h (s : ByteArray) :=
 (cutB s ⟨#[58, 58]⟩)
def siV_i (s : ByteArray) :=
 ((XV.fz (sixL s).l.length 1 fun (i : Nat) => [XT ((sixL s).l.getD i ⟨#[]⟩)]) = XV.fz (sixL s).l.length 1 fun (i : Nat) => [XT ((sixL s).l.getD i ⟨#[]⟩)])
def siV_j (s : ByteArray) :=
 ((XV.fz (sixL s).r.length 1 fun (i : Nat) => [XT ((sixL s).r.getD i ⟨#[]⟩)]) = XV.fz (sixL s).r.length 1 fun (i : Nat) => [XT ((sixL s).r.getD i ⟨#[]⟩)])
def siV_k (s : ByteArray) (x : (siI s).σ) :=
 (((27 : Nat) = (27 : TypeId) ∧ true = true) ∧ (0 : Int) = sixA (sixL s) x.i 0 ∧ (0 : Int) = sixA (sixL s) x.i 1 ∧ (0 : Int) = sixA (sixL s) x.i 2 ∧ (0 : Int) = sixA (sixL s) x.i 3 ∧ (0 : Int) = sixA (sixL s) x.i 4 ∧ (0 : Int) = sixA (sixL s) x.i 5 ∧ (0 : Int) = sixA (sixL s) x.i 6 ∧ (0 : Int) = sixA (sixL s) x.i 7 ∧ (0 : Int) = sixA (sixL s) x.i 8 ∧ (0 : Int) = sixA (sixL s) x.i 9 ∧ (0 : Int) = sixA (sixL s) x.i 10 ∧ (0 : Int) = sixA (sixL s) x.i 11 ∧ (0 : Int) = sixA (sixL s) x.i 12 ∧ (0 : Int) = sixA (sixL s) x.i 13 ∧ (0 : Int) = sixA (sixL s) x.i 14 ∧ (0 : Int) = sixA (sixL s) x.i 15 ∧ True)
def siV_l :=
 (((27 : Nat) = (27 : TypeId) ∧ true = true) ∧ (0 : Int) = (0 : Int) ∧ (0 : Int) = (0 : Int) ∧ (0 : Int) = (0 : Int) ∧ (0 : Int) = (0 : Int) ∧ (0 : Int) = (0 : Int) ∧ (0 : Int) = (0 : Int) ∧ (0 : Int) = (0 : Int) ∧ (0 : Int) = (0 : Int) ∧ (0 : Int) = (0 : Int) ∧ (0 : Int) = (0 : Int) ∧ (0 : Int) = (0 : Int) ∧ (0 : Int) = (0 : Int) ∧ (0 : Int) = (0 : Int) ∧ (0 : Int) = (0 : Int) ∧ (0 : Int) = (0 : Int) ∧ (0 : Int) = (0 : Int) ∧ True)
def siV_m (s : ByteArray) :=
 ((XV.fz ((sixL s).l.length + (sixL s).r.length) 1 fun (j : Nat) => [XT (sixQ (sixL s) j)]) = XV.fz ((sixL s).l.length + (sixL s).r.length) 1 fun (j : Nat) => [XT (sixQ (sixL s) j)])
def siV_n (s : ByteArray) :=
 ((XV.fz ((sixL s).l.length + (sixL s).r.length) 1 fun (j : Nat) => [XT (bif j.blt (sixL s).l.length then (sixL s).l.getD j ⟨#[]⟩ else (sixL s).r.getD (j - (sixL s).l.length) ⟨#[]⟩)]) = XV.fz ((sixL s).l.length + (sixL s).r.length) 1 fun (j : Nat) => [XT (sixQ (sixL s) j)])
def siV_o (s : ByteArray) (x : IXAd) :=
 ((pu16 (sixQ (sixL s) (↑x.i : Int).toNat)).fst = (1 : Nat) → (sixQ (sixL s) (↑x.i : Int).toNat).size ≤ (1000000 : Nat) ∧ (116 : TypeId) = (116 : TypeId) ∧ ((1 : Int) = (1 : Int) ∨ (1 : Int) = (2 : Int)) ∧ (True → (siV_e s) ∧ false = (six s).snd ∧ True) ∧ True)
def siV_p (s : ByteArray) (x : IXAd) :=
 ((pu16 (sixQ (sixL s) (↑x.i : Int).toNat)).fst = (2 : Nat) → (sixQ (sixL s) (↑x.i : Int).toNat).size ≤ (1000000 : Nat) ∧ (116 : TypeId) = (116 : TypeId) ∧ ((2 : Int) = (1 : Int) ∨ (2 : Int) = (2 : Int)) ∧ (True → (siV_e s) ∧ false = (six s).snd ∧ True) ∧ True)
def siV_q (s : ByteArray) :=
 (splitS (siV_h s).fst ⟨#[58]⟩)
def siV_r (s : ByteArray) :=
 (splitS (siV_h s).snd.fst ⟨#[58]⟩)
def siV_s (s : ByteArray) :=
 ((siV_h s).snd.snd = true ∨ (sixL s).l.length = (8 : Nat))
def siV (s : ByteArray) : Prop :=
 s.size < (4294967281 : Nat) ∧ ((!decide ((siV_h s).fst = ⟨#[]⟩)) = true → (siV_h s).fst.size < (4294967281 : Nat) ∧ (1 : Nat) ≤ (1 : Nat) ∧ ((!decide ((siV_h s).snd.fst = ⟨#[]⟩)) = true → (siV_h s).snd.fst.size < (4294967281 : Nat) ∧ (1 : Nat) ≤ (1 : Nat) ∧ (in64 ((↑(siV_q s).length : Int) + (↑(siV_r s).length : Int)) ∧ ((decide ((↑(siV_q s).length : Int) + (↑(siV_r s).length : Int) > (8 : Int)) || !(siV_h s).snd.snd && (↑(siV_q s).length : Int) != (8 : Int)) = true → (siV_e s) ∧ false = (six s).snd ∧ True) ∧ ((decide ((↑(siV_q s).length : Int) + (↑(siV_r s).length : Int) > (8 : Int)) || !(siV_h s).snd.snd && (↑(siV_q s).length : Int) != (8 : Int)) = false → ∃ (x : (siA s).σ), (sixT s ≤ (8 : Nat) ∧ (siV_s s)) ∧ true = true ∧ XV.ptr 0 0 0 0 = XV.ptr 0 0 0 0 ∧ false = false ∧ ((XV.fz (siV_q s).length 1 fun (i : Nat) => [XT ((siV_q s).getD i ⟨#[]⟩)]) = XV.fz (sixL s).l.length 1 fun (i : Nat) => [XT ((sixL s).l.getD i ⟨#[]⟩)]) ∧ ((XV.fz (siV_r s).length 1 fun (i : Nat) => [XT ((siV_r s).getD i ⟨#[]⟩)]) = XV.fz (sixL s).r.length 1 fun (i : Nat) => [XT ((sixL s).r.getD i ⟨#[]⟩)]) ∧ siV_l ∧ True)) ∧ ∀ (x : UX), sixT s ≤ (8 : Nat) ∧ (siV_s s) → (↑(sixL s).l.length : Int) = (↑(sixL s).l.length : Int) ∧ (↑(sixL s).l.length : Int) = (↑(sixL s).l.length : Int) ∧ ((sixL s).l.length + (sixL s).r.length) * (16 : Nat) ≤ (140737488355328 : Nat) ∧ (sixL s).l.length + (sixL s).r.length ≤ (140737488355328 : Nat) ∧ (∃ (x : (siI s).σ), (x.i ≤ sixT s ∧ sixOk (sixL s) x.i = true) ∧ true = true ∧ (0 : Int) = (↑x.i : Int) ∧ XV.ptr 0 0 0 0 = XV.ptr 0 0 0 0 ∧ false = false ∧ (siV_i s) ∧ (siV_j s) ∧ XV.ptr 1 0 0 0 = XV.ptr 1 0 0 0 ∧ (siV_n s) ∧ (↑((sixL s).l.length + (sixL s).r.length) : Int) = (↑(sixT s) : Int) ∧ siV_f ∧ (siV_k s x) ∧ True) ∧ ∀ (x : IXAd), x.i ≤ sixT s ∧ sixOk (sixL s) x.i = true → (decide ((↑x.i : Int) < (↑(sixT s) : Int)) = true → (0 : Int) ≤ (↑x.i : Int) ∧ (↑x.i : Int) < (↑((sixL s).l.length + (sixL s).r.length) : Int) ∧ (sixQ (sixL s) (↑x.i : Int).toNat).size ≤ (1000000 : Nat) ∧ (16 : Int) = (16 : Int) ∧ ((pu16 (sixQ (sixL s) (↑x.i : Int).toNat)).fst = (0 : Nat) → (decide ((↑x.i : Int) ≥ (↑(sixL s).l.length : Int)) = true → in64 ((8 : Int) - (↑(sixL s).l.length : Int)) ∧ in64 ((8 : Int) - (↑(sixL s).l.length : Int) - (↑(sixL s).r.length : Int)) ∧ in64 (siV_d s x) ∧ in64 ((2 : Int) * (siV_d s x)) ∧ in64 ((2 : Int) * (siV_d s x)) ∧ in64 ((2 : Int) * (siV_d s x) + (1 : Int)) ∧ (0 : Int) ≤ (2 : Int) * (siV_d s x) ∧ (2 : Int) * (siV_d s x) < (↑(16 : Nat) : Int) ∧ ((2 : Int) * (siV_d s x)).toNat < [sixA (sixL s) x.i 0, sixA (sixL s) x.i 1, sixA (sixL s) x.i 2, sixA (sixL s) x.i 3, sixA (sixL s) x.i 4, sixA (sixL s) x.i 5, sixA (sixL s) x.i 6, sixA (sixL s) x.i 7, sixA (sixL s) x.i 8, sixA (sixL s) x.i 9, sixA (sixL s) x.i 10, sixA (sixL s) x.i 11, sixA (sixL s) x.i 12, sixA (sixL s) x.i 13, sixA (sixL s) x.i 14, sixA (sixL s) x.i 15].length ∧ (0 : Int) ≤ (2 : Int) * (siV_d s x) + (1 : Int) ∧ (2 : Int) * (siV_d s x) + (1 : Int) < (↑(16 : Nat) : Int) ∧ ((2 : Int) * (siV_d s x) + (1 : Int)).toNat < [bif ((2 : Int) * (siV_d s x)).toNat.beq 0 then IntKind.u8.wrap (siV_c s x) else sixA (sixL s) x.i 0, bif ((2 : Int) * (siV_d s x)).toNat.beq ((1 : Nat)) then IntKind.u8.wrap (siV_c s x) else sixA (sixL s) x.i 1, bif ((2 : Int) * (siV_d s x)).toNat.beq ((2 : Nat)) then IntKind.u8.wrap (siV_c s x) else sixA (sixL s) x.i 2, bif ((2 : Int) * (siV_d s x)).toNat.beq ((3 : Nat)) then IntKind.u8.wrap (siV_c s x) else sixA (sixL s) x.i 3, bif ((2 : Int) * (siV_d s x)).toNat.beq ((4 : Nat)) then IntKind.u8.wrap (siV_c s x) else sixA (sixL s) x.i 4, bif ((2 : Int) * (siV_d s x)).toNat.beq ((5 : Nat)) then IntKind.u8.wrap (siV_c s x) else sixA (sixL s) x.i 5, bif ((2 : Int) * (siV_d s x)).toNat.beq ((6 : Nat)) then IntKind.u8.wrap (siV_c s x) else sixA (sixL s) x.i 6, bif ((2 : Int) * (siV_d s x)).toNat.beq ((7 : Nat)) then IntKind.u8.wrap (siV_c s x) else sixA (sixL s) x.i 7, bif ((2 : Int) * (siV_d s x)).toNat.beq ((8 : Nat)) then IntKind.u8.wrap (siV_c s x) else sixA (sixL s) x.i 8, bif ((2 : Int) * (siV_d s x)).toNat.beq ((9 : Nat)) then IntKind.u8.wrap (siV_c s x) else sixA (sixL s) x.i 9, bif ((2 : Int) * (siV_d s x)).toNat.beq ((10 : Nat)) then IntKind.u8.wrap (siV_c s x) else sixA (sixL s) x.i 10, bif ((2 : Int) * (siV_d s x)).toNat.beq ((11 : Nat)) then IntKind.u8.wrap (siV_c s x) else sixA (sixL s) x.i 11, bif ((2 : Int) * (siV_d s x)).toNat.beq ((12 : Nat)) then IntKind.u8.wrap (siV_c s x) else sixA (sixL s) x.i 12, bif ((2 : Int) * (siV_d s x)).toNat.beq ((13 : Nat)) then IntKind.u8.wrap (siV_c s x) else sixA (sixL s) x.i 13, bif ((2 : Int) * (siV_d s x)).toNat.beq ((14 : Nat)) then IntKind.u8.wrap (siV_c s x) else sixA (sixL s) x.i 14, bif ((2 : Int) * (siV_d s x)).toNat.beq ((15 : Nat)) then IntKind.u8.wrap (siV_c s x) else sixA (sixL s) x.i 15].length ∧ in64 ((↑x.i : Int) + (1 : Int)) ∧ ∃ (x' : (siI s).σ), (x'.i ≤ sixT s ∧ sixOk (sixL s) x'.i = true) ∧ sixT s - x'.i < sixT s - x.i ∧ true = true ∧ (↑x.i : Int) + (1 : Int) = (↑x'.i : Int) ∧ XV.ptr 0 0 0 0 = XV.ptr 0 0 0 0 ∧ false = false ∧ (siV_i s) ∧ (siV_j s) ∧ XV.ptr 1 0 0 0 = XV.ptr 1 0 0 0 ∧ (siV_m s) ∧ (↑(sixT s) : Int) = (↑(sixT s) : Int) ∧ siV_f ∧ (siV_a s x x') ∧ True) ∧ (decide ((↑x.i : Int) ≥ (↑(sixL s).l.length : Int)) = false → in64 ((2 : Int) * (↑x.i : Int)) ∧ in64 ((2 : Int) * (↑x.i : Int)) ∧ in64 ((2 : Int) * (↑x.i : Int) + (1 : Int)) ∧ (0 : Int) ≤ (2 : Int) * (↑x.i : Int) ∧ (2 : Int) * (↑x.i : Int) < (↑(16 : Nat) : Int) ∧ ((2 : Int) * (↑x.i : Int)).toNat < [sixA (sixL s) x.i 0, sixA (sixL s) x.i 1, sixA (sixL s) x.i 2, sixA (sixL s) x.i 3, sixA (sixL s) x.i 4, sixA (sixL s) x.i 5, sixA (sixL s) x.i 6, sixA (sixL s) x.i 7, sixA (sixL s) x.i 8, sixA (sixL s) x.i 9, sixA (sixL s) x.i 10, sixA (sixL s) x.i 11, sixA (sixL s) x.i 12, sixA (sixL s) x.i 13, sixA (sixL s) x.i 14, sixA (sixL s) x.i 15].length ∧ (0 : Int) ≤ (2 : Int) * (↑x.i : Int) + (1 : Int) ∧ (2 : Int) * (↑x.i : Int) + (1 : Int) < (↑(16 : Nat) : Int) ∧ ((2 : Int) * (↑x.i : Int) + (1 : Int)).toNat < [bif ((2 : Int) * (↑x.i : Int)).toNat.beq 0 then IntKind.u8.wrap (siV_c s x) else sixA (sixL s) x.i 0, bif ((2 : Int) * (↑x.i : Int)).toNat.beq ((1 : Nat)) then IntKind.u8.wrap (siV_c s x) else sixA (sixL s) x.i 1, bif ((2 : Int) * (↑x.i : Int)).toNat.beq ((2 : Nat)) then IntKind.u8.wrap (siV_c s x) else sixA (sixL s) x.i 2, bif ((2 : Int) * (↑x.i : Int)).toNat.beq ((3 : Nat)) then IntKind.u8.wrap (siV_c s x) else sixA (sixL s) x.i 3, bif ((2 : Int) * (↑x.i : Int)).toNat.beq ((4 : Nat)) then IntKind.u8.wrap (siV_c s x) else sixA (sixL s) x.i 4, bif ((2 : Int) * (↑x.i : Int)).toNat.beq ((5 : Nat)) then IntKind.u8.wrap (siV_c s x) else sixA (sixL s) x.i 5, bif ((2 : Int) * (↑x.i : Int)).toNat.beq ((6 : Nat)) then IntKind.u8.wrap (siV_c s x) else sixA (sixL s) x.i 6, bif ((2 : Int) * (↑x.i : Int)).toNat.beq ((7 : Nat)) then IntKind.u8.wrap (siV_c s x) else sixA (sixL s) x.i 7, bif ((2 : Int) * (↑x.i : Int)).toNat.beq ((8 : Nat)) then IntKind.u8.wrap (siV_c s x) else sixA (sixL s) x.i 8, bif ((2 : Int) * (↑x.i : Int)).toNat.beq ((9 : Nat)) then IntKind.u8.wrap (siV_c s x) else sixA (sixL s) x.i 9, bif ((2 : Int) * (↑x.i : Int)).toNat.beq ((10 : Nat)) then IntKind.u8.wrap (siV_c s x) else sixA (sixL s) x.i 10, bif ((2 : Int) * (↑x.i : Int)).toNat.beq ((11 : Nat)) then IntKind.u8.wrap (siV_c s x) else sixA (sixL s) x.i 11, bif ((2 : Int) * (↑x.i : Int)).toNat.beq ((12 : Nat)) then IntKind.u8.wrap (siV_c s x) else sixA (sixL s) x.i 12, bif ((2 : Int) * (↑x.i : Int)).toNat.beq ((13 : Nat)) then IntKind.u8.wrap (siV_c s x) else sixA (sixL s) x.i 13, bif ((2 : Int) * (↑x.i : Int)).toNat.beq ((14 : Nat)) then IntKind.u8.wrap (siV_c s x) else sixA (sixL s) x.i 14, bif ((2 : Int) * (↑x.i : Int)).toNat.beq ((15 : Nat)) then IntKind.u8.wrap (siV_c s x) else sixA (sixL s) x.i 15].length ∧ in64 ((↑x.i : Int) + (1 : Int)) ∧ ∃ (x' : (siI s).σ), (x'.i ≤ sixT s ∧ sixOk (sixL s) x'.i = true) ∧ sixT s - x'.i < sixT s - x.i ∧ true = true ∧ (↑x.i : Int) + (1 : Int) = (↑x'.i : Int) ∧ XV.ptr 0 0 0 0 = XV.ptr 0 0 0 0 ∧ false = false ∧ (siV_i s) ∧ (siV_j s) ∧ XV.ptr 1 0 0 0 = XV.ptr 1 0 0 0 ∧ (siV_m s) ∧ (↑(sixT s) : Int) = (↑(sixT s) : Int) ∧ siV_f ∧ (siV_b s x x') ∧ True)) ∧ (siV_o s x) ∧ (siV_p s x) ∧ True) ∧ (siV_g s x)) ∧ ((!decide ((siV_h s).snd.fst = ⟨#[]⟩)) = false → (in64 ((↑(siV_q s).length : Int) + (↑(0 : Nat) : Int)) ∧ ((decide ((↑(siV_q s).length : Int) + (↑(0 : Nat) : Int) > (8 : Int)) || !(siV_h s).snd.snd && (↑(siV_q s).length : Int) != (8 : Int)) = true → (siV_e s) ∧ false = (six s).snd ∧ True) ∧ ((decide ((↑(siV_q s).length : Int) + (↑(0 : Nat) : Int) > (8 : Int)) || !(siV_h s).snd.snd && (↑(siV_q s).length : Int) != (8 : Int)) = false → ∃ (x : (siA s).σ), (sixT s ≤ (8 : Nat) ∧ (siV_s s)) ∧ true = true ∧ XV.ptr 0 0 0 0 = XV.ptr 0 0 0 0 ∧ false = false ∧ ((XV.fz (siV_q s).length 1 fun (i : Nat) => [XT ((siV_q s).getD i ⟨#[]⟩)]) = XV.fz (sixL s).l.length 1 fun (i : Nat) => [XT ((sixL s).l.getD i ⟨#[]⟩)]) ∧ ((XV.fz 0 1 fun (x : Nat) => [XT (⟨#[]⟩)]) = XV.fz (sixL s).r.length 1 fun (i : Nat) => [XT ((sixL s).r.getD i ⟨#[]⟩)]) ∧ siV_l ∧ True)) ∧ ∀ (x : UX), sixT s ≤ (8 : Nat) ∧ (siV_s s) → (↑(sixL s).l.length : Int) = (↑(sixL s).l.length : Int) ∧ (↑(sixL s).l.length : Int) = (↑(sixL s).l.length : Int) ∧ ((sixL s).l.length + (sixL s).r.length) * (16 : Nat) ≤ (140737488355328 : Nat) ∧ (sixL s).l.length + (sixL s).r.length ≤ (140737488355328 : Nat) ∧ (∃ (x : (siI s).σ), (x.i ≤ sixT s ∧ sixOk (sixL s) x.i = true) ∧ true = true ∧ (0 : Int) = (↑x.i : Int) ∧ XV.ptr 0 0 0 0 = XV.ptr 0 0 0 0 ∧ false = false ∧ (siV_i s) ∧ (siV_j s) ∧ XV.ptr 1 0 0 0 = XV.ptr 1 0 0 0 ∧ (siV_n s) ∧ (↑((sixL s).l.length + (sixL s).r.length) : Int) = (↑(sixT s) : Int) ∧ siV_f ∧ (siV_k s x) ∧ True) ∧ ∀ (x : IXAd), x.i ≤ sixT s ∧ sixOk (sixL s) x.i = true → (decide ((↑x.i : Int) < (↑(sixT s) : Int)) = true → (0 : Int) ≤ (↑x.i : Int) ∧ (↑x.i : Int) < (↑((sixL s).l.length + (sixL s).r.length) : Int) ∧ (sixQ (sixL s) (↑x.i : Int).toNat).size ≤ (1000000 : Nat) ∧ (16 : Int) = (16 : Int) ∧ ((pu16 (sixQ (sixL s) (↑x.i : Int).toNat)).fst = (0 : Nat) → (decide ((↑x.i : Int) ≥ (↑(sixL s).l.length : Int)) = true → in64 ((8 : Int) - (↑(sixL s).l.length : Int)) ∧ in64 ((8 : Int) - (↑(sixL s).l.length : Int) - (↑(sixL s).r.length : Int)) ∧ in64 (siV_d s x) ∧ in64 ((2 : Int) * (siV_d s x)) ∧ in64 ((2 : Int) * (siV_d s x)) ∧ in64 ((2 : Int) * (siV_d s x) + (1 : Int)) ∧ (0 : Int) ≤ (2 : Int) * (siV_d s x) ∧ (2 : Int) * (siV_d s x) < (↑(16 : Nat) : Int) ∧ ((2 : Int) * (siV_d s x)).toNat < [sixA (sixL s) x.i 0, sixA (sixL s) x.i 1, sixA (sixL s) x.i 2, sixA (sixL s) x.i 3, sixA (sixL s) x.i 4, sixA (sixL s) x.i 5, sixA (sixL s) x.i 6, sixA (sixL s) x.i 7, sixA (sixL s) x.i 8, sixA (sixL s) x.i 9, sixA (sixL s) x.i 10, sixA (sixL s) x.i 11, sixA (sixL s) x.i 12, sixA (sixL s) x.i 13, sixA (sixL s) x.i 14, sixA (sixL s) x.i 15].length ∧ (0 : Int) ≤ (2 : Int) * (siV_d s x) + (1 : Int) ∧ (2 : Int) * (siV_d s x) + (1 : Int) < (↑(16 : Nat) : Int) ∧ ((2 : Int) * (siV_d s x) + (1 : Int)).toNat < [bif ((2 : Int) * (siV_d s x)).toNat.beq 0 then IntKind.u8.wrap (siV_c s x) else sixA (sixL s) x.i 0, bif ((2 : Int) * (siV_d s x)).toNat.beq ((1 : Nat)) then IntKind.u8.wrap (siV_c s x) else sixA (sixL s) x.i 1, bif ((2 : Int) * (siV_d s x)).toNat.beq ((2 : Nat)) then IntKind.u8.wrap (siV_c s x) else sixA (sixL s) x.i 2, bif ((2 : Int) * (siV_d s x)).toNat.beq ((3 : Nat)) then IntKind.u8.wrap (siV_c s x) else sixA (sixL s) x.i 3, bif ((2 : Int) * (siV_d s x)).toNat.beq ((4 : Nat)) then IntKind.u8.wrap (siV_c s x) else sixA (sixL s) x.i 4, bif ((2 : Int) * (siV_d s x)).toNat.beq ((5 : Nat)) then IntKind.u8.wrap (siV_c s x) else sixA (sixL s) x.i 5, bif ((2 : Int) * (siV_d s x)).toNat.beq ((6 : Nat)) then IntKind.u8.wrap (siV_c s x) else sixA (sixL s) x.i 6, bif ((2 : Int) * (siV_d s x)).toNat.beq ((7 : Nat)) then IntKind.u8.wrap (siV_c s x) else sixA (sixL s) x.i 7, bif ((2 : Int) * (siV_d s x)).toNat.beq ((8 : Nat)) then IntKind.u8.wrap (siV_c s x) else sixA (sixL s) x.i 8, bif ((2 : Int) * (siV_d s x)).toNat.beq ((9 : Nat)) then IntKind.u8.wrap (siV_c s x) else sixA (sixL s) x.i 9, bif ((2 : Int) * (siV_d s x)).toNat.beq ((10 : Nat)) then IntKind.u8.wrap (siV_c s x) else sixA (sixL s) x.i 10, bif ((2 : Int) * (siV_d s x)).toNat.beq ((11 : Nat)) then IntKind.u8.wrap (siV_c s x) else sixA (sixL s) x.i 11, bif ((2 : Int) * (siV_d s x)).toNat.beq ((12 : Nat)) then IntKind.u8.wrap (siV_c s x) else sixA (sixL s) x.i 12, bif ((2 : Int) * (siV_d s x)).toNat.beq ((13 : Nat)) then IntKind.u8.wrap (siV_c s x) else sixA (sixL s) x.i 13, bif ((2 : Int) * (siV_d s x)).toNat.beq ((14 : Nat)) then IntKind.u8.wrap (siV_c s x) else sixA (sixL s) x.i 14, bif ((2 : Int) * (siV_d s x)).toNat.beq ((15 : Nat)) then IntKind.u8.wrap (siV_c s x) else sixA (sixL s) x.i 15].length ∧ in64 ((↑x.i : Int) + (1 : Int)) ∧ ∃ (x' : (siI s).σ), (x'.i ≤ sixT s ∧ sixOk (sixL s) x'.i = true) ∧ sixT s - x'.i < sixT s - x.i ∧ true = true ∧ (↑x.i : Int) + (1 : Int) = (↑x'.i : Int) ∧ XV.ptr 0 0 0 0 = XV.ptr 0 0 0 0 ∧ false = false ∧ (siV_i s) ∧ (siV_j s) ∧ XV.ptr 1 0 0 0 = XV.ptr 1 0 0 0 ∧ (siV_m s) ∧ (↑(sixT s) : Int) = (↑(sixT s) : Int) ∧ siV_f ∧ (siV_a s x x') ∧ True) ∧ (decide ((↑x.i : Int) ≥ (↑(sixL s).l.length : Int)) = false → in64 ((2 : Int) * (↑x.i : Int)) ∧ in64 ((2 : Int) * (↑x.i : Int)) ∧ in64 ((2 : Int) * (↑x.i : Int) + (1 : Int)) ∧ (0 : Int) ≤ (2 : Int) * (↑x.i : Int) ∧ (2 : Int) * (↑x.i : Int) < (↑(16 : Nat) : Int) ∧ ((2 : Int) * (↑x.i : Int)).toNat < [sixA (sixL s) x.i 0, sixA (sixL s) x.i 1, sixA (sixL s) x.i 2, sixA (sixL s) x.i 3, sixA (sixL s) x.i 4, sixA (sixL s) x.i 5, sixA (sixL s) x.i 6, sixA (sixL s) x.i 7, sixA (sixL s) x.i 8, sixA (sixL s) x.i 9, sixA (sixL s) x.i 10, sixA (sixL s) x.i 11, sixA (sixL s) x.i 12, sixA (sixL s) x.i 13, sixA (sixL s) x.i 14, sixA (sixL s) x.i 15].length ∧ (0 : Int) ≤ (2 : Int) * (↑x.i : Int) + (1 : Int) ∧ (2 : Int) * (↑x.i : Int) + (1 : Int) < (↑(16 : Nat) : Int) ∧ ((2 : Int) * (↑x.i : Int) + (1 : Int)).toNat < [bif ((2 : Int) * (↑x.i : Int)).toNat.beq 0 then IntKind.u8.wrap (siV_c s x) else sixA (sixL s) x.i 0, bif ((2 : Int) * (↑x.i : Int)).toNat.beq ((1 : Nat)) then IntKind.u8.wrap (siV_c s x) else sixA (sixL s) x.i 1, bif ((2 : Int) * (↑x.i : Int)).toNat.beq ((2 : Nat)) then IntKind.u8.wrap (siV_c s x) else sixA (sixL s) x.i 2, bif ((2 : Int) * (↑x.i : Int)).toNat.beq ((3 : Nat)) then IntKind.u8.wrap (siV_c s x) else sixA (sixL s) x.i 3, bif ((2 : Int) * (↑x.i : Int)).toNat.beq ((4 : Nat)) then IntKind.u8.wrap (siV_c s x) else sixA (sixL s) x.i 4, bif ((2 : Int) * (↑x.i : Int)).toNat.beq ((5 : Nat)) then IntKind.u8.wrap (siV_c s x) else sixA (sixL s) x.i 5, bif ((2 : Int) * (↑x.i : Int)).toNat.beq ((6 : Nat)) then IntKind.u8.wrap (siV_c s x) else sixA (sixL s) x.i 6, bif ((2 : Int) * (↑x.i : Int)).toNat.beq ((7 : Nat)) then IntKind.u8.wrap (siV_c s x) else sixA (sixL s) x.i 7, bif ((2 : Int) * (↑x.i : Int)).toNat.beq ((8 : Nat)) then IntKind.u8.wrap (siV_c s x) else sixA (sixL s) x.i 8, bif ((2 : Int) * (↑x.i : Int)).toNat.beq ((9 : Nat)) then IntKind.u8.wrap (siV_c s x) else sixA (sixL s) x.i 9, bif ((2 : Int) * (↑x.i : Int)).toNat.beq ((10 : Nat)) then IntKind.u8.wrap (siV_c s x) else sixA (sixL s) x.i 10, bif ((2 : Int) * (↑x.i : Int)).toNat.beq ((11 : Nat)) then IntKind.u8.wrap (siV_c s x) else sixA (sixL s) x.i 11, bif ((2 : Int) * (↑x.i : Int)).toNat.beq ((12 : Nat)) then IntKind.u8.wrap (siV_c s x) else sixA (sixL s) x.i 12, bif ((2 : Int) * (↑x.i : Int)).toNat.beq ((13 : Nat)) then IntKind.u8.wrap (siV_c s x) else sixA (sixL s) x.i 13, bif ((2 : Int) * (↑x.i : Int)).toNat.beq ((14 : Nat)) then IntKind.u8.wrap (siV_c s x) else sixA (sixL s) x.i 14, bif ((2 : Int) * (↑x.i : Int)).toNat.beq ((15 : Nat)) then IntKind.u8.wrap (siV_c s x) else sixA (sixL s) x.i 15].length ∧ in64 ((↑x.i : Int) + (1 : Int)) ∧ ∃ (x' : (siI s).σ), (x'.i ≤ sixT s ∧ sixOk (sixL s) x'.i = true) ∧ sixT s - x'.i < sixT s - x.i ∧ true = true ∧ (↑x.i : Int) + (1 : Int) = (↑x'.i : Int) ∧ XV.ptr 0 0 0 0 = XV.ptr 0 0 0 0 ∧ false = false ∧ (siV_i s) ∧ (siV_j s) ∧ XV.ptr 1 0 0 0 = XV.ptr 1 0 0 0 ∧ (siV_m s) ∧ (↑(sixT s) : Int) = (↑(sixT s) : Int) ∧ siV_f ∧ (siV_b s x x') ∧ True)) ∧ (siV_o s x) ∧ (siV_p s x) ∧ True) ∧ (siV_g s x))) ∧ ((!decide ((siV_h s).fst = ⟨#[]⟩)) = false → ((!decide ((siV_h s).snd.fst = ⟨#[]⟩)) = true → (siV_h s).snd.fst.size < (4294967281 : Nat) ∧ (1 : Nat) ≤ (1 : Nat) ∧ (in64 ((↑(0 : Nat) : Int) + (↑(siV_r s).length : Int)) ∧ ((decide ((↑(0 : Nat) : Int) + (↑(siV_r s).length : Int) > (8 : Int)) || !(siV_h s).snd.snd && (↑(0 : Nat) : Int) != (8 : Int)) = true → (siV_e s) ∧ false = (six s).snd ∧ True) ∧ ((decide ((↑(0 : Nat) : Int) + (↑(siV_r s).length : Int) > (8 : Int)) || !(siV_h s).snd.snd && (↑(0 : Nat) : Int) != (8 : Int)) = false → ∃ (x : (siA s).σ), (sixT s ≤ (8 : Nat) ∧ (siV_s s)) ∧ true = true ∧ XV.ptr 0 0 0 0 = XV.ptr 0 0 0 0 ∧ false = false ∧ ((XV.fz 0 1 fun (x : Nat) => [XT (⟨#[]⟩)]) = XV.fz (sixL s).l.length 1 fun (i : Nat) => [XT ((sixL s).l.getD i ⟨#[]⟩)]) ∧ ((XV.fz (siV_r s).length 1 fun (i : Nat) => [XT ((siV_r s).getD i ⟨#[]⟩)]) = XV.fz (sixL s).r.length 1 fun (i : Nat) => [XT ((sixL s).r.getD i ⟨#[]⟩)]) ∧ siV_l ∧ True)) ∧ ∀ (x : UX), sixT s ≤ (8 : Nat) ∧ (siV_s s) → (↑(sixL s).l.length : Int) = (↑(sixL s).l.length : Int) ∧ (↑(sixL s).l.length : Int) = (↑(sixL s).l.length : Int) ∧ ((sixL s).l.length + (sixL s).r.length) * (16 : Nat) ≤ (140737488355328 : Nat) ∧ (sixL s).l.length + (sixL s).r.length ≤ (140737488355328 : Nat) ∧ (∃ (x : (siI s).σ), (x.i ≤ sixT s ∧ sixOk (sixL s) x.i = true) ∧ true = true ∧ (0 : Int) = (↑x.i : Int) ∧ XV.ptr 0 0 0 0 = XV.ptr 0 0 0 0 ∧ false = false ∧ (siV_i s) ∧ (siV_j s) ∧ XV.ptr 1 0 0 0 = XV.ptr 1 0 0 0 ∧ (siV_n s) ∧ (↑((sixL s).l.length + (sixL s).r.length) : Int) = (↑(sixT s) : Int) ∧ siV_f ∧ (siV_k s x) ∧ True) ∧ ∀ (x : IXAd), x.i ≤ sixT s ∧ sixOk (sixL s) x.i = true → (decide ((↑x.i : Int) < (↑(sixT s) : Int)) = true → (0 : Int) ≤ (↑x.i : Int) ∧ (↑x.i : Int) < (↑((sixL s).l.length + (sixL s).r.length) : Int) ∧ (sixQ (sixL s) (↑x.i : Int).toNat).size ≤ (1000000 : Nat) ∧ (16 : Int) = (16 : Int) ∧ ((pu16 (sixQ (sixL s) (↑x.i : Int).toNat)).fst = (0 : Nat) → (decide ((↑x.i : Int) ≥ (↑(sixL s).l.length : Int)) = true → in64 ((8 : Int) - (↑(sixL s).l.length : Int)) ∧ in64 ((8 : Int) - (↑(sixL s).l.length : Int) - (↑(sixL s).r.length : Int)) ∧ in64 (siV_d s x) ∧ in64 ((2 : Int) * (siV_d s x)) ∧ in64 ((2 : Int) * (siV_d s x)) ∧ in64 ((2 : Int) * (siV_d s x) + (1 : Int)) ∧ (0 : Int) ≤ (2 : Int) * (siV_d s x) ∧ (2 : Int) * (siV_d s x) < (↑(16 : Nat) : Int) ∧ ((2 : Int) * (siV_d s x)).toNat < [sixA (sixL s) x.i 0, sixA (sixL s) x.i 1, sixA (sixL s) x.i 2, sixA (sixL s) x.i 3, sixA (sixL s) x.i 4, sixA (sixL s) x.i 5, sixA (sixL s) x.i 6, sixA (sixL s) x.i 7, sixA (sixL s) x.i 8, sixA (sixL s) x.i 9, sixA (sixL s) x.i 10, sixA (sixL s) x.i 11, sixA (sixL s) x.i 12, sixA (sixL s) x.i 13, sixA (sixL s) x.i 14, sixA (sixL s) x.i 15].length ∧ (0 : Int) ≤ (2 : Int) * (siV_d s x) + (1 : Int) ∧ (2 : Int) * (siV_d s x) + (1 : Int) < (↑(16 : Nat) : Int) ∧ ((2 : Int) * (siV_d s x) + (1 : Int)).toNat < [bif ((2 : Int) * (siV_d s x)).toNat.beq 0 then IntKind.u8.wrap (siV_c s x) else sixA (sixL s) x.i 0, bif ((2 : Int) * (siV_d s x)).toNat.beq ((1 : Nat)) then IntKind.u8.wrap (siV_c s x) else sixA (sixL s) x.i 1, bif ((2 : Int) * (siV_d s x)).toNat.beq ((2 : Nat)) then IntKind.u8.wrap (siV_c s x) else sixA (sixL s) x.i 2, bif ((2 : Int) * (siV_d s x)).toNat.beq ((3 : Nat)) then IntKind.u8.wrap (siV_c s x) else sixA (sixL s) x.i 3, bif ((2 : Int) * (siV_d s x)).toNat.beq ((4 : Nat)) then IntKind.u8.wrap (siV_c s x) else sixA (sixL s) x.i 4, bif ((2 : Int) * (siV_d s x)).toNat.beq ((5 : Nat)) then IntKind.u8.wrap (siV_c s x) else sixA (sixL s) x.i 5, bif ((2 : Int) * (siV_d s x)).toNat.beq ((6 : Nat)) then IntKind.u8.wrap (siV_c s x) else sixA (sixL s) x.i 6, bif ((2 : Int) * (siV_d s x)).toNat.beq ((7 : Nat)) then IntKind.u8.wrap (siV_c s x) else sixA (sixL s) x.i 7, bif ((2 : Int) * (siV_d s x)).toNat.beq ((8 : Nat)) then IntKind.u8.wrap (siV_c s x) else sixA (sixL s) x.i 8, bif ((2 : Int) * (siV_d s x)).toNat.beq ((9 : Nat)) then IntKind.u8.wrap (siV_c s x) else sixA (sixL s) x.i 9, bif ((2 : Int) * (siV_d s x)).toNat.beq ((10 : Nat)) then IntKind.u8.wrap (siV_c s x) else sixA (sixL s) x.i 10, bif ((2 : Int) * (siV_d s x)).toNat.beq ((11 : Nat)) then IntKind.u8.wrap (siV_c s x) else sixA (sixL s) x.i 11, bif ((2 : Int) * (siV_d s x)).toNat.beq ((12 : Nat)) then IntKind.u8.wrap (siV_c s x) else sixA (sixL s) x.i 12, bif ((2 : Int) * (siV_d s x)).toNat.beq ((13 : Nat)) then IntKind.u8.wrap (siV_c s x) else sixA (sixL s) x.i 13, bif ((2 : Int) * (siV_d s x)).toNat.beq ((14 : Nat)) then IntKind.u8.wrap (siV_c s x) else sixA (sixL s) x.i 14, bif ((2 : Int) * (siV_d s x)).toNat.beq ((15 : Nat)) then IntKind.u8.wrap (siV_c s x) else sixA (sixL s) x.i 15].length ∧ in64 ((↑x.i : Int) + (1 : Int)) ∧ ∃ (x' : (siI s).σ), (x'.i ≤ sixT s ∧ sixOk (sixL s) x'.i = true) ∧ sixT s - x'.i < sixT s - x.i ∧ true = true ∧ (↑x.i : Int) + (1 : Int) = (↑x'.i : Int) ∧ XV.ptr 0 0 0 0 = XV.ptr 0 0 0 0 ∧ false = false ∧ (siV_i s) ∧ (siV_j s) ∧ XV.ptr 1 0 0 0 = XV.ptr 1 0 0 0 ∧ (siV_m s) ∧ (↑(sixT s) : Int) = (↑(sixT s) : Int) ∧ siV_f ∧ (siV_a s x x') ∧ True) ∧ (decide ((↑x.i : Int) ≥ (↑(sixL s).l.length : Int)) = false → in64 ((2 : Int) * (↑x.i : Int)) ∧ in64 ((2 : Int) * (↑x.i : Int)) ∧ in64 ((2 : Int) * (↑x.i : Int) + (1 : Int)) ∧ (0 : Int) ≤ (2 : Int) * (↑x.i : Int) ∧ (2 : Int) * (↑x.i : Int) < (↑(16 : Nat) : Int) ∧ ((2 : Int) * (↑x.i : Int)).toNat < [sixA (sixL s) x.i 0, sixA (sixL s) x.i 1, sixA (sixL s) x.i 2, sixA (sixL s) x.i 3, sixA (sixL s) x.i 4, sixA (sixL s) x.i 5, sixA (sixL s) x.i 6, sixA (sixL s) x.i 7, sixA (sixL s) x.i 8, sixA (sixL s) x.i 9, sixA (sixL s) x.i 10, sixA (sixL s) x.i 11, sixA (sixL s) x.i 12, sixA (sixL s) x.i 13, sixA (sixL s) x.i 14, sixA (sixL s) x.i 15].length ∧ (0 : Int) ≤ (2 : Int) * (↑x.i : Int) + (1 : Int) ∧ (2 : Int) * (↑x.i : Int) + (1 : Int) < (↑(16 : Nat) : Int) ∧ ((2 : Int) * (↑x.i : Int) + (1 : Int)).toNat < [bif ((2 : Int) * (↑x.i : Int)).toNat.beq 0 then IntKind.u8.wrap (siV_c s x) else sixA (sixL s) x.i 0, bif ((2 : Int) * (↑x.i : Int)).toNat.beq ((1 : Nat)) then IntKind.u8.wrap (siV_c s x) else sixA (sixL s) x.i 1, bif ((2 : Int) * (↑x.i : Int)).toNat.beq ((2 : Nat)) then IntKind.u8.wrap (siV_c s x) else sixA (sixL s) x.i 2, bif ((2 : Int) * (↑x.i : Int)).toNat.beq ((3 : Nat)) then IntKind.u8.wrap (siV_c s x) else sixA (sixL s) x.i 3, bif ((2 : Int) * (↑x.i : Int)).toNat.beq ((4 : Nat)) then IntKind.u8.wrap (siV_c s x) else sixA (sixL s) x.i 4, bif ((2 : Int) * (↑x.i : Int)).toNat.beq ((5 : Nat)) then IntKind.u8.wrap (siV_c s x) else sixA (sixL s) x.i 5, bif ((2 : Int) * (↑x.i : Int)).toNat.beq ((6 : Nat)) then IntKind.u8.wrap (siV_c s x) else sixA (sixL s) x.i 6, bif ((2 : Int) * (↑x.i : Int)).toNat.beq ((7 : Nat)) then IntKind.u8.wrap (siV_c s x) else sixA (sixL s) x.i 7, bif ((2 : Int) * (↑x.i : Int)).toNat.beq ((8 : Nat)) then IntKind.u8.wrap (siV_c s x) else sixA (sixL s) x.i 8, bif ((2 : Int) * (↑x.i : Int)).toNat.beq ((9 : Nat)) then IntKind.u8.wrap (siV_c s x) else sixA (sixL s) x.i 9, bif ((2 : Int) * (↑x.i : Int)).toNat.beq ((10 : Nat)) then IntKind.u8.wrap (siV_c s x) else sixA (sixL s) x.i 10, bif ((2 : Int) * (↑x.i : Int)).toNat.beq ((11 : Nat)) then IntKind.u8.wrap (siV_c s x) else sixA (sixL s) x.i 11, bif ((2 : Int) * (↑x.i : Int)).toNat.beq ((12 : Nat)) then IntKind.u8.wrap (siV_c s x) else sixA (sixL s) x.i 12, bif ((2 : Int) * (↑x.i : Int)).toNat.beq ((13 : Nat)) then IntKind.u8.wrap (siV_c s x) else sixA (sixL s) x.i 13, bif ((2 : Int) * (↑x.i : Int)).toNat.beq ((14 : Nat)) then IntKind.u8.wrap (siV_c s x) else sixA (sixL s) x.i 14, bif ((2 : Int) * (↑x.i : Int)).toNat.beq ((15 : Nat)) then IntKind.u8.wrap (siV_c s x) else sixA (sixL s) x.i 15].length ∧ in64 ((↑x.i : Int) + (1 : Int)) ∧ ∃ (x' : (siI s).σ), (x'.i ≤ sixT s ∧ sixOk (sixL s) x'.i = true) ∧ sixT s - x'.i < sixT s - x.i ∧ true = true ∧ (↑x.i : Int) + (1 : Int) = (↑x'.i : Int) ∧ XV.ptr 0 0 0 0 = XV.ptr 0 0 0 0 ∧ false = false ∧ (siV_i s) ∧ (siV_j s) ∧ XV.ptr 1 0 0 0 = XV.ptr 1 0 0 0 ∧ (siV_m s) ∧ (↑(sixT s) : Int) = (↑(sixT s) : Int) ∧ siV_f ∧ (siV_b s x x') ∧ True)) ∧ (siV_o s x) ∧ (siV_p s x) ∧ True) ∧ (siV_g s x)) ∧ ((!decide ((siV_h s).snd.fst = ⟨#[]⟩)) = false → (in64 ((↑(0 : Nat) : Int) + (↑(0 : Nat) : Int)) ∧ ((decide ((↑(0 : Nat) : Int) + (↑(0 : Nat) : Int) > (8 : Int)) || !(siV_h s).snd.snd && (↑(0 : Nat) : Int) != (8 : Int)) = true → (siV_e s) ∧ false = (six s).snd ∧ True) ∧ ((decide ((↑(0 : Nat) : Int) + (↑(0 : Nat) : Int) > (8 : Int)) || !(siV_h s).snd.snd && (↑(0 : Nat) : Int) != (8 : Int)) = false → ∃ (x : (siA s).σ), (sixT s ≤ (8 : Nat) ∧ (siV_s s)) ∧ true = true ∧ XV.ptr 0 0 0 0 = XV.ptr 0 0 0 0 ∧ false = false ∧ ((XV.fz 0 1 fun (x : Nat) => [XT (⟨#[]⟩)]) = XV.fz (sixL s).l.length 1 fun (i : Nat) => [XT ((sixL s).l.getD i ⟨#[]⟩)]) ∧ ((XV.fz 0 1 fun (x : Nat) => [XT (⟨#[]⟩)]) = XV.fz (sixL s).r.length 1 fun (i : Nat) => [XT ((sixL s).r.getD i ⟨#[]⟩)]) ∧ siV_l ∧ True)) ∧ ∀ (x : UX), sixT s ≤ (8 : Nat) ∧ (siV_s s) → (↑(sixL s).l.length : Int) = (↑(sixL s).l.length : Int) ∧ (↑(sixL s).l.length : Int) = (↑(sixL s).l.length : Int) ∧ ((sixL s).l.length + (sixL s).r.length) * (16 : Nat) ≤ (140737488355328 : Nat) ∧ (sixL s).l.length + (sixL s).r.length ≤ (140737488355328 : Nat) ∧ (∃ (x : (siI s).σ), (x.i ≤ sixT s ∧ sixOk (sixL s) x.i = true) ∧ true = true ∧ (0 : Int) = (↑x.i : Int) ∧ XV.ptr 0 0 0 0 = XV.ptr 0 0 0 0 ∧ false = false ∧ (siV_i s) ∧ (siV_j s) ∧ XV.ptr 1 0 0 0 = XV.ptr 1 0 0 0 ∧ (siV_n s) ∧ (↑((sixL s).l.length + (sixL s).r.length) : Int) = (↑(sixT s) : Int) ∧ siV_f ∧ (siV_k s x) ∧ True) ∧ ∀ (x : IXAd), x.i ≤ sixT s ∧ sixOk (sixL s) x.i = true → (decide ((↑x.i : Int) < (↑(sixT s) : Int)) = true → (0 : Int) ≤ (↑x.i : Int) ∧ (↑x.i : Int) < (↑((sixL s).l.length + (sixL s).r.length) : Int) ∧ (sixQ (sixL s) (↑x.i : Int).toNat).size ≤ (1000000 : Nat) ∧ (16 : Int) = (16 : Int) ∧ ((pu16 (sixQ (sixL s) (↑x.i : Int).toNat)).fst = (0 : Nat) → (decide ((↑x.i : Int) ≥ (↑(sixL s).l.length : Int)) = true → in64 ((8 : Int) - (↑(sixL s).l.length : Int)) ∧ in64 ((8 : Int) - (↑(sixL s).l.length : Int) - (↑(sixL s).r.length : Int)) ∧ in64 (siV_d s x) ∧ in64 ((2 : Int) * (siV_d s x)) ∧ in64 ((2 : Int) * (siV_d s x)) ∧ in64 ((2 : Int) * (siV_d s x) + (1 : Int)) ∧ (0 : Int) ≤ (2 : Int) * (siV_d s x) ∧ (2 : Int) * (siV_d s x) < (↑(16 : Nat) : Int) ∧ ((2 : Int) * (siV_d s x)).toNat < [sixA (sixL s) x.i 0, sixA (sixL s) x.i 1, sixA (sixL s) x.i 2, sixA (sixL s) x.i 3, sixA (sixL s) x.i 4, sixA (sixL s) x.i 5, sixA (sixL s) x.i 6, sixA (sixL s) x.i 7, sixA (sixL s) x.i 8, sixA (sixL s) x.i 9, sixA (sixL s) x.i 10, sixA (sixL s) x.i 11, sixA (sixL s) x.i 12, sixA (sixL s) x.i 13, sixA (sixL s) x.i 14, sixA (sixL s) x.i 15].length ∧ (0 : Int) ≤ (2 : Int) * (siV_d s x) + (1 : Int) ∧ (2 : Int) * (siV_d s x) + (1 : Int) < (↑(16 : Nat) : Int) ∧ ((2 : Int) * (siV_d s x) + (1 : Int)).toNat < [bif ((2 : Int) * (siV_d s x)).toNat.beq 0 then IntKind.u8.wrap (siV_c s x) else sixA (sixL s) x.i 0, bif ((2 : Int) * (siV_d s x)).toNat.beq ((1 : Nat)) then IntKind.u8.wrap (siV_c s x) else sixA (sixL s) x.i 1, bif ((2 : Int) * (siV_d s x)).toNat.beq ((2 : Nat)) then IntKind.u8.wrap (siV_c s x) else sixA (sixL s) x.i 2, bif ((2 : Int) * (siV_d s x)).toNat.beq ((3 : Nat)) then IntKind.u8.wrap (siV_c s x) else sixA (sixL s) x.i 3, bif ((2 : Int) * (siV_d s x)).toNat.beq ((4 : Nat)) then IntKind.u8.wrap (siV_c s x) else sixA (sixL s) x.i 4, bif ((2 : Int) * (siV_d s x)).toNat.beq ((5 : Nat)) then IntKind.u8.wrap (siV_c s x) else sixA (sixL s) x.i 5, bif ((2 : Int) * (siV_d s x)).toNat.beq ((6 : Nat)) then IntKind.u8.wrap (siV_c s x) else sixA (sixL s) x.i 6, bif ((2 : Int) * (siV_d s x)).toNat.beq ((7 : Nat)) then IntKind.u8.wrap (siV_c s x) else sixA (sixL s) x.i 7, bif ((2 : Int) * (siV_d s x)).toNat.beq ((8 : Nat)) then IntKind.u8.wrap (siV_c s x) else sixA (sixL s) x.i 8, bif ((2 : Int) * (siV_d s x)).toNat.beq ((9 : Nat)) then IntKind.u8.wrap (siV_c s x) else sixA (sixL s) x.i 9, bif ((2 : Int) * (siV_d s x)).toNat.beq ((10 : Nat)) then IntKind.u8.wrap (siV_c s x) else sixA (sixL s) x.i 10, bif ((2 : Int) * (siV_d s x)).toNat.beq ((11 : Nat)) then IntKind.u8.wrap (siV_c s x) else sixA (sixL s) x.i 11, bif ((2 : Int) * (siV_d s x)).toNat.beq ((12 : Nat)) then IntKind.u8.wrap (siV_c s x) else sixA (sixL s) x.i 12, bif ((2 : Int) * (siV_d s x)).toNat.beq ((13 : Nat)) then IntKind.u8.wrap (siV_c s x) else sixA (sixL s) x.i 13, bif ((2 : Int) * (siV_d s x)).toNat.beq ((14 : Nat)) then IntKind.u8.wrap (siV_c s x) else sixA (sixL s) x.i 14, bif ((2 : Int) * (siV_d s x)).toNat.beq ((15 : Nat)) then IntKind.u8.wrap (siV_c s x) else sixA (sixL s) x.i 15].length ∧ in64 ((↑x.i : Int) + (1 : Int)) ∧ ∃ (x' : (siI s).σ), (x'.i ≤ sixT s ∧ sixOk (sixL s) x'.i = true) ∧ sixT s - x'.i < sixT s - x.i ∧ true = true ∧ (↑x.i : Int) + (1 : Int) = (↑x'.i : Int) ∧ XV.ptr 0 0 0 0 = XV.ptr 0 0 0 0 ∧ false = false ∧ (siV_i s) ∧ (siV_j s) ∧ XV.ptr 1 0 0 0 = XV.ptr 1 0 0 0 ∧ (siV_m s) ∧ (↑(sixT s) : Int) = (↑(sixT s) : Int) ∧ siV_f ∧ (siV_a s x x') ∧ True) ∧ (decide ((↑x.i : Int) ≥ (↑(sixL s).l.length : Int)) = false → in64 ((2 : Int) * (↑x.i : Int)) ∧ in64 ((2 : Int) * (↑x.i : Int)) ∧ in64 ((2 : Int) * (↑x.i : Int) + (1 : Int)) ∧ (0 : Int) ≤ (2 : Int) * (↑x.i : Int) ∧ (2 : Int) * (↑x.i : Int) < (↑(16 : Nat) : Int) ∧ ((2 : Int) * (↑x.i : Int)).toNat < [sixA (sixL s) x.i 0, sixA (sixL s) x.i 1, sixA (sixL s) x.i 2, sixA (sixL s) x.i 3, sixA (sixL s) x.i 4, sixA (sixL s) x.i 5, sixA (sixL s) x.i 6, sixA (sixL s) x.i 7, sixA (sixL s) x.i 8, sixA (sixL s) x.i 9, sixA (sixL s) x.i 10, sixA (sixL s) x.i 11, sixA (sixL s) x.i 12, sixA (sixL s) x.i 13, sixA (sixL s) x.i 14, sixA (sixL s) x.i 15].length ∧ (0 : Int) ≤ (2 : Int) * (↑x.i : Int) + (1 : Int) ∧ (2 : Int) * (↑x.i : Int) + (1 : Int) < (↑(16 : Nat) : Int) ∧ ((2 : Int) * (↑x.i : Int) + (1 : Int)).toNat < [bif ((2 : Int) * (↑x.i : Int)).toNat.beq 0 then IntKind.u8.wrap (siV_c s x) else sixA (sixL s) x.i 0, bif ((2 : Int) * (↑x.i : Int)).toNat.beq ((1 : Nat)) then IntKind.u8.wrap (siV_c s x) else sixA (sixL s) x.i 1, bif ((2 : Int) * (↑x.i : Int)).toNat.beq ((2 : Nat)) then IntKind.u8.wrap (siV_c s x) else sixA (sixL s) x.i 2, bif ((2 : Int) * (↑x.i : Int)).toNat.beq ((3 : Nat)) then IntKind.u8.wrap (siV_c s x) else sixA (sixL s) x.i 3, bif ((2 : Int) * (↑x.i : Int)).toNat.beq ((4 : Nat)) then IntKind.u8.wrap (siV_c s x) else sixA (sixL s) x.i 4, bif ((2 : Int) * (↑x.i : Int)).toNat.beq ((5 : Nat)) then IntKind.u8.wrap (siV_c s x) else sixA (sixL s) x.i 5, bif ((2 : Int) * (↑x.i : Int)).toNat.beq ((6 : Nat)) then IntKind.u8.wrap (siV_c s x) else sixA (sixL s) x.i 6, bif ((2 : Int) * (↑x.i : Int)).toNat.beq ((7 : Nat)) then IntKind.u8.wrap (siV_c s x) else sixA (sixL s) x.i 7, bif ((2 : Int) * (↑x.i : Int)).toNat.beq ((8 : Nat)) then IntKind.u8.wrap (siV_c s x) else sixA (sixL s) x.i 8, bif ((2 : Int) * (↑x.i : Int)).toNat.beq ((9 : Nat)) then IntKind.u8.wrap (siV_c s x) else sixA (sixL s) x.i 9, bif ((2 : Int) * (↑x.i : Int)).toNat.beq ((10 : Nat)) then IntKind.u8.wrap (siV_c s x) else sixA (sixL s) x.i 10, bif ((2 : Int) * (↑x.i : Int)).toNat.beq ((11 : Nat)) then IntKind.u8.wrap (siV_c s x) else sixA (sixL s) x.i 11, bif ((2 : Int) * (↑x.i : Int)).toNat.beq ((12 : Nat)) then IntKind.u8.wrap (siV_c s x) else sixA (sixL s) x.i 12, bif ((2 : Int) * (↑x.i : Int)).toNat.beq ((13 : Nat)) then IntKind.u8.wrap (siV_c s x) else sixA (sixL s) x.i 13, bif ((2 : Int) * (↑x.i : Int)).toNat.beq ((14 : Nat)) then IntKind.u8.wrap (siV_c s x) else sixA (sixL s) x.i 14, bif ((2 : Int) * (↑x.i : Int)).toNat.beq ((15 : Nat)) then IntKind.u8.wrap (siV_c s x) else sixA (sixL s) x.i 15].length ∧ in64 ((↑x.i : Int) + (1 : Int)) ∧ ∃ (x' : (siI s).σ), (x'.i ≤ sixT s ∧ sixOk (sixL s) x'.i = true) ∧ sixT s - x'.i < sixT s - x.i ∧ true = true ∧ (↑x.i : Int) + (1 : Int) = (↑x'.i : Int) ∧ XV.ptr 0 0 0 0 = XV.ptr 0 0 0 0 ∧ false = false ∧ (siV_i s) ∧ (siV_j s) ∧ XV.ptr 1 0 0 0 = XV.ptr 1 0 0 0 ∧ (siV_m s) ∧ (↑(sixT s) : Int) = (↑(sixT s) : Int) ∧ siV_f ∧ (siV_b s x x') ∧ True)) ∧ (siV_o s x) ∧ (siV_p s x) ∧ True) ∧ (siV_g s x)))
theorem siV_eq (s : ByteArray) : siV s = (funC cxgAd Tryz.f34 (mkSc (siE s) (bodyOf Tryz.f34)) [XT s] (.tup [adr (six s).1, XB (six s).2])) := by kernel_rfl
theorem cutB_size2 (s sep : ByteArray) : (cutB s sep).1.size ≤ s.size ∧ (cutB s sep).2.1.size ≤ s.size := by
 constructor
 ·show (mk8 (Lib.cut s.data.toList sep.data.toList).1).size ≤ _
  rw [mk8_size, size_data s]
  unfold Lib.cut
  split
  ·exact (List.take_sublist _ _).length_le
  ·exact Nat.le_refl _
 ·show (mk8 (Lib.cut s.data.toList sep.data.toList).2.1).size ≤ _
  rw [mk8_size, size_data s]
  unfold Lib.cut
  split
  ·exact (List.drop_sublist _ _).length_le
  ·exact Nat.zero_le _
theorem side_size (s : ByteArray) (i : Nat) : (pcs (side s) i).size ≤ s.size := by
 unfold side
 split
 ·unfold pcs; rw [List.getD_nil]; exact Nat.zero_le _
 ·exact pieces_size s 58 i
theorem sixQ_size (s : ByteArray) (i : Nat) : (sixQ (sixL s) i).size ≤ s.size := by
 have h := cutB_size2 s ⟨#[58, 58]⟩
 unfold sixQ
 split
 ·exact Nat.le_trans (side_size _ _) h.1
 ·exact Nat.le_trans (side_size _ _) h.2
theorem sixA_succ (p : LR) (i m k : Nat) (h : m = sixP p i) : (bif (2 * (m : Int) + 1).toNat.beq k then IntKind.u8.wrap ((pu16 (sixQ p i)).2 : Int) else bif (2 * (m : Int)).toNat.beq k then IntKind.u8.wrap (((pu16 (sixQ p i)).2 : Int).fdiv (2 ^ 8)) else sixA p i k) = sixA p (i + 1) k := by
 subst h
 show _ = if k = 2 * sixP p i + 1 then _ else if k = 2 * sixP p i then _ else sixA p i k
 rw [beqN, beqN, show (2 * (sixP p i : Int) + 1).toNat = 2 * sixP p i + 1 by omega, show (2 * (sixP p i : Int)).toNat = 2 * sixP p i by omega]
 by_cases h1 : 2 * sixP p i + 1 = k
 ·rw [decide_eq_true h1, cond_true, if_pos h1.symm]
 ·rw [decide_eq_false h1, cond_false, if_neg (Ne.symm h1)]
  by_cases h2 : 2 * sixP p i = k
  ·rw [decide_eq_true h2, cond_true, if_pos h2.symm]
  ·rw [decide_eq_false h2, cond_false, if_neg (Ne.symm h2)]
theorem sixOk_le (p : LR) : ∀ m, sixOk p m = true → ∀ k, k < m → (pu16 (sixQ p k)).1 = 0
 | m + 1, h, k, hk => by
  unfold sixOk at h
  simp only [Bool.and_eq_true, decide_eq_true_eq] at h
  by_cases e : k = m
  ·rw [e]; exact h.2
  ·exact sixOk_le p m h.1 k (by omega)
theorem six_fz (s : ByteArray) : (XV.fz ((sixL s).l.length + (sixL s).r.length) 1 fun j => [XT (bif j.blt (sixL s).l.length then (sixL s).l.getD j ⟨#[]⟩ else (sixL s).r.getD (j - (sixL s).l.length) ⟨#[]⟩)]) = XV.fz ((sixL s).l.length + (sixL s).r.length) 1 fun j => [XT (sixQ (sixL s) j)] := by
 congr 1
 funext j
 unfold sixQ
 rw [bltN]
 by_cases h : j < (sixL s).l.length
 ·rw [decide_eq_true h, cond_true, if_pos h]; rfl
 ·rw [decide_eq_false h, cond_false, if_neg h]; rfl
theorem sixA_at (p : LR) (i k : Nat) (a : Int) (h : a = (sixP p i : Int)) : (bif (2 * a + 1).toNat.beq k then IntKind.u8.wrap ((pu16 (sixQ p i)).2 : Int) else bif (2 * a).toNat.beq k then IntKind.u8.wrap (((pu16 (sixQ p i)).2 : Int).fdiv (2 ^ 8)) else sixA p i k) = sixA p (i + 1) k := by
 subst h
 exact sixA_succ p i (sixP p i) k rfl
theorem side_ne {s : ByteArray} (h : (!decide (s = ⟨#[]⟩)) = true) : side s = splitS s ⟨#[58]⟩ := if_neg (by simpa using h)
theorem side_eq {s : ByteArray} (h : (!decide (s = ⟨#[]⟩)) = false) : side s = [] := if_pos (by simpa using h)
theorem sixL_of {s : ByteArray} {l r : List ByteArray} (hl : side (cutB s ⟨#[58, 58]⟩).1 = l) (hr : side (cutB s ⟨#[58, 58]⟩).2.1 = r) : sixL s = ⟨l, r⟩ := by unfold sixL; rw [hl, hr]
theorem six_bad {s : ByteArray} (h : ¬ ((sixL s).l.length + (sixL s).r.length ≤ 8 ∧ ((cutB s ⟨#[58, 58]⟩).2.2 = true ∨ (sixL s).l.length = 8))) : six s = (zeroA, false) := if_neg fun e => h e.1
theorem six_dec {s : ByteArray} {a b : Int} (ha : a = ((sixL s).l.length : Int)) (hb : b = ((sixL s).r.length : Int)) (h : (decide (a + b > 8) || !(cutB s ⟨#[58, 58]⟩).2.2 && a != 8) = true) : six s = (zeroA, false) := by
 subst ha hb
 refine six_bad fun e => ?_
 rcases e.2 with h2 | h2
 ·rw [h2, decide_eq_false (by omega)] at h; exact absurd h (by simp)
 ·rw [h2, decide_eq_false (by omega)] at h; exact absurd h (by simp)
theorem six_dec' {s : ByteArray} {a b : Int} (ha : a = ((sixL s).l.length : Int)) (hb : b = ((sixL s).r.length : Int)) (h : (decide (a + b > 8) || !(cutB s ⟨#[58, 58]⟩).2.2 && a != 8) = false) : sixT s ≤ 8 ∧ ((cutB s ⟨#[58, 58]⟩).2.2 = true ∨ (sixL s).l.length = 8) := by
 subst ha hb
 rw [Bool.or_eq_false_iff] at h
 refine ⟨?_, ?_⟩
 ·have := of_decide_eq_false h.1
  unfold sixT; omega
 ·rcases e : (cutB s ⟨#[58, 58]⟩).2.2 with _ | _
  ·rw [e] at h
   have h := h.2
   simp at h
   exact .inr (by omega)
  ·exact .inl rfl
theorem si_v (s : ByteArray) (hs : s.size ≤ 1000000) : siV s := by
 unfold siV siV_s siV_r siV_q siV_p siV_o siV_n siV_m siV_l siV_k siV_j siV_i siV_h siV_g siV_f siV_e siV_a siV_d siV_b siV_c
 obtain ⟨c1, c2⟩ := cutB_size2 s ⟨#[58, 58]⟩
 have l1 := splitS_len (cutB s ⟨#[58, 58]⟩).1 58
 have l2 := splitS_len (cutB s ⟨#[58, 58]⟩).2.1 58
 have z : ∀ (h : six s = (zeroA, false)), (0 = (six s).1 0 ∧ 0 = (six s).1 1 ∧ 0 = (six s).1 2 ∧ 0 = (six s).1 3 ∧ 0 = (six s).1 4 ∧ 0 = (six s).1 5 ∧ 0 = (six s).1 6 ∧ 0 = (six s).1 7 ∧ 0 = (six s).1 8 ∧ 0 = (six s).1 9 ∧ 0 = (six s).1 10 ∧ 0 = (six s).1 11 ∧ 0 = (six s).1 12 ∧ 0 = (six s).1 13 ∧ 0 = (six s).1 14 ∧ 0 = (six s).1 15 ∧ True) ∧ false = (six s).2 ∧ True := by
  intro h
  rw [h]
  exact ⟨⟨rfl, rfl, rfl, rfl, rfl, rfl, rfl, rfl, rfl, rfl, rfl, rfl, rfl, rfl, rfl, rfl, trivial⟩, rfl, trivial⟩
 refine ⟨by omega, fun h1 => ⟨by omega, Nat.le_refl _, fun h2 => ⟨by omega, Nat.le_refl _, ⟨by unfold in64; omega, fun h3 => ?a1, fun h3 => ?a2⟩, ?a3⟩, fun h2 => ⟨⟨by unfold in64; omega, fun h3 => ?b1, fun h3 => ?b2⟩, ?b3⟩⟩, fun h1 => ⟨fun h2 => ⟨by omega, Nat.le_refl _, ⟨by unfold in64; omega, fun h3 => ?c1, fun h3 => ?c2⟩, ?c3⟩, fun h2 => ⟨⟨by unfold in64; omega, fun h3 => ?d1, fun h3 => ?d2⟩, ?d3⟩⟩⟩
 case a1 => exact z (six_dec (by unfold sixL; rw [side_ne h1]) (by unfold sixL; rw [side_ne h2]) h3)
 case b1 => exact z (six_dec (by unfold sixL; rw [side_ne h1]) (by unfold sixL; rw [side_eq h2]; rfl) h3)
 case c1 => exact z (six_dec (by unfold sixL; rw [side_eq h1]; rfl) (by unfold sixL; rw [side_ne h2]) h3)
 case d1 => exact z (six_dec (by unfold sixL; rw [side_eq h1]; rfl) (by unfold sixL; rw [side_eq h2]; rfl) h3)
 case a2 =>
  have e := sixL_of (side_ne h1) (side_ne h2)
  refine ⟨⟨()⟩, six_dec' (by rw [e]) (by rw [e]) h3, ?_⟩
  and_intros <;> first | with_reducible rfl | trivial | (rw [e])
 case b2 =>
  have e := sixL_of (side_ne h1) (side_eq h2)
  refine ⟨⟨()⟩, six_dec' (by rw [e]) (by rw [e]; rfl) h3, ?_⟩
  and_intros <;> first | with_reducible rfl | trivial | (rw [e]; done) | (rw [e]; rfl)
 case c2 =>
  have e := sixL_of (side_eq h1) (side_ne h2)
  refine ⟨⟨()⟩, six_dec' (by rw [e]; rfl) (by rw [e]) h3, ?_⟩
  and_intros <;> first | with_reducible rfl | trivial | (rw [e]; done) | (rw [e]; rfl)
 case d2 =>
  have e := sixL_of (side_eq h1) (side_eq h2)
  refine ⟨⟨()⟩, six_dec' (by rw [e]; rfl) (by rw [e]; rfl) h3, ?_⟩
  and_intros <;> first | with_reducible rfl | trivial | (rw [e]; done) | (rw [e]; rfl)
 all_goals
  clear h1 h2
  rintro - ⟨hT, hF⟩
  have hT : (sixL s).l.length + (sixL s).r.length ≤ 8 := hT
  refine ⟨rfl, rfl, by omega, by omega, ⟨⟨0⟩, ⟨Nat.zero_le _, rfl⟩, rfl, rfl, rfl, rfl, rfl, rfl, rfl, six_fz s, rfl, ?_, ?_, trivial⟩, ?_⟩
  ·and_intros <;> first | rfl | trivial
  ·and_intros <;> first | rfl | trivial
  rintro ⟨i⟩ ⟨hi, hok⟩
  have hi : i ≤ (sixL s).l.length + (sixL s).r.length := hi
  have hok : sixOk (sixL s) i = true := hok
  have hj : (IXAd.mk i).i = i := rfl
  have hsz := sixQ_size s i
  refine ⟨fun h1 => ?_, fun h1 => ?_⟩
  ·have hlt : i < (sixL s).l.length + (sixL s).r.length := by
    have : (i : Int) < (((sixL s).l.length + (sixL s).r.length : Nat) : Int) := of_decide_eq_true h1
    omega
   have stop : (pu16 (sixQ (sixL s) i)).1 ≠ 0 → six s = (zeroA, false) := fun h => if_neg fun e => h (sixOk_le _ _ e.2 i hlt)
   refine ⟨by omega, by dsimp only; omega, by show (sixQ (sixL s) i).size ≤ _; omega, rfl, fun h2 => ?_, fun h2 => ⟨by show (sixQ (sixL s) i).size ≤ _; omega, rfl, .inl rfl, fun _ => ?_, trivial⟩, fun h2 => ⟨by show (sixQ (sixL s) i).size ≤ _; omega, rfl, .inr rfl, fun _ => ?_, trivial⟩, trivial⟩
   ·have ok : sixOk (sixL s) (i + 1) = true := by
     show (sixOk (sixL s) i && decide ((pu16 (sixQ (sixL s) i)).1 = 0)) = true
     have h2' : (pu16 (sixQ (sixL s) i)).1 = 0 := h2
     rw [hok, h2']
     rfl
    by_cases hl : i < (sixL s).l.length
    ·have hp : sixP (sixL s) i = i := if_pos hl
     have hp' : (i : Int) = (sixP (sixL s) i : Int) := by rw [hp]
     refine ⟨fun h3 => absurd (of_decide_eq_true h3) (by omega), fun h3 => ⟨by unfold in64; omega, by unfold in64; omega, by unfold in64; omega, by omega, by omega, ?_, by omega, by omega, ?_, by unfold in64; omega, ⟨i + 1⟩, ⟨hlt, ok⟩, by show (sixL s).l.length + (sixL s).r.length - (i + 1) < (sixL s).l.length + (sixL s).r.length - i; omega, rfl, rfl, rfl, rfl, rfl, rfl, rfl, rfl, rfl, ?_, ?_, trivial⟩⟩
     ·show _ < 16
      omega
     ·show _ < 16
      omega
     ·and_intros <;> first | rfl | trivial
     ·refine ⟨⟨rfl, rfl⟩, sixA_at _ i 0 _ hp', sixA_at _ i 1 _ hp', sixA_at _ i 2 _ hp', sixA_at _ i 3 _ hp', sixA_at _ i 4 _ hp', sixA_at _ i 5 _ hp', sixA_at _ i 6 _ hp', sixA_at _ i 7 _ hp', sixA_at _ i 8 _ hp', sixA_at _ i 9 _ hp', sixA_at _ i 10 _ hp', sixA_at _ i 11 _ hp', sixA_at _ i 12 _ hp', sixA_at _ i 13 _ hp', sixA_at _ i 14 _ hp', sixA_at _ i 15 _ hp', trivial⟩
    ·have hp : sixP (sixL s) i = i + (8 - (sixL s).l.length - (sixL s).r.length) := if_neg hl
     have hp' : (i : Int) + (8 - ((sixL s).l.length : Int) - ((sixL s).r.length : Int)) = (sixP (sixL s) i : Int) := by rw [hp]; omega
     refine ⟨fun h3 => ⟨by unfold in64; omega, by unfold in64; omega, by unfold in64; omega, by unfold in64; omega, by unfold in64; omega, by unfold in64; omega, by omega, by omega, ?_, by omega, by omega, ?_, by unfold in64; omega, ⟨i + 1⟩, ⟨hlt, ok⟩, by show (sixL s).l.length + (sixL s).r.length - (i + 1) < (sixL s).l.length + (sixL s).r.length - i; omega, rfl, rfl, rfl, rfl, rfl, rfl, rfl, rfl, rfl, ?_, ?_, trivial⟩, fun h3 => absurd (of_decide_eq_false h3) (by omega)⟩
     ·show _ < 16
      omega
     ·show _ < 16
      omega
     ·and_intros <;> first | rfl | trivial
     ·refine ⟨⟨rfl, rfl⟩, sixA_at _ i 0 _ hp', sixA_at _ i 1 _ hp', sixA_at _ i 2 _ hp', sixA_at _ i 3 _ hp', sixA_at _ i 4 _ hp', sixA_at _ i 5 _ hp', sixA_at _ i 6 _ hp', sixA_at _ i 7 _ hp', sixA_at _ i 8 _ hp', sixA_at _ i 9 _ hp', sixA_at _ i 10 _ hp', sixA_at _ i 11 _ hp', sixA_at _ i 12 _ hp', sixA_at _ i 13 _ hp', sixA_at _ i 14 _ hp', sixA_at _ i 15 _ hp', trivial⟩
   ·have h2' : (pu16 (sixQ (sixL s) i)).1 = 1 := h2
    exact z (stop (by omega))
   ·have h2' : (pu16 (sixQ (sixL s) i)).1 = 2 := h2
    exact z (stop (by omega))
  ·have hge : i = (sixL s).l.length + (sixL s).r.length := by
    have : ¬ (i : Int) < (((sixL s).l.length + (sixL s).r.length : Nat) : Int) := of_decide_eq_false h1
    omega
   have e : six s = (sixA (sixL s) i, true) := by
    rw [hge]
    exact if_pos ⟨⟨hT, hF⟩, by rw [← hge]; exact hok⟩
   rw [e]
   exact ⟨⟨rfl, rfl, rfl, rfl, rfl, rfl, rfl, rfl, rfl, rfl, rfl, rfl, rfl, rfl, rfl, rfl, trivial⟩, rfl, trivial⟩
theorem si_ok : CTok Tryz.prog 34 (C1 dStr (fun s => [s.size ≤ 1000000]) fun s => .tup [adr (six s).1, XB (six s).2]) := C1_ok cxgAd_ok Tryz.func34 rfl (by decide) dStr_eq.ok (by kernel_rfl) (fun _ => rfl) fun s hc => exv (siV_eq s) (si_v s (hc _ (by simp)))
end Go.Proofs.YtkjcoehblekpdaaGreatDoorAv
namespace Go.Proofs.YtkjcoehblekpdaaGreatDoorAv
open Go Go.RowKit
def bytesO : List XV → Option (List Int)
 | [] => some []
 | x :: l => match byteO x with
  | some b => match bytesO l with
   | some r => some (b :: r)
   | none => none
  | none => none
theorem bytesO_eq : ∀ (cs : List XV) (l : List Int), bytesO cs = some l → cs = l.map X8
 | [], l, h => by obtain rfl := (Option.some.inj h).symm; rfl
 | x :: cs, l, h => by
  unfold bytesO at h
  split at h
  ·rename_i b hb
   split at h
   ·rename_i r hr
    obtain rfl := Option.some.inj h
    rw [byteO_eq hb, bytesO_eq cs r hr]
    rfl
   ·cases h
  ·cases h
def dAL : Dc (Nat → Int) := ⟨fun x => match x with
 | .agg cs => match Nat.beq (xlen cs) 16 with
  | true => match bytesO cs with
   | some l => some ([], fun i => l.getD i 0)
   | none => none
  | false => none
 | _ => none, adr⟩
theorem dAL_eq : DcEq dAL := fun x cs a h _ => by
 simp only [dAL] at h
 split at h
 ·rename_i l
  split at h
  ·rename_i hl
   split at h
   ·rename_i bs hbs
    simp only [Option.some.injEq, Prod.mk.injEq] at h
    obtain ⟨-, rfl⟩ := h
    simp only [beqN, decide_eq_true_eq] at hl
    rw [xlen_eq] at hl
    obtain rfl := bytesO_eq l bs hbs
    rw [List.length_map] at hl
    have e : XV.agg (bs.map X8) = adr fun i => bs.getD i 0 := by
     rcases bs with _ | ⟨a0, _ | ⟨a1, _ | ⟨a2, _ | ⟨a3, _ | ⟨a4, _ | ⟨a5, _ | ⟨a6, _ | ⟨a7, _ | ⟨a8, _ | ⟨a9, _ | ⟨a10, _ | ⟨a11, _ | ⟨a12, _ | ⟨a13, _ | ⟨a14, _ | ⟨a15, _ | ⟨a16, l⟩⟩⟩⟩⟩⟩⟩⟩⟩⟩⟩⟩⟩⟩⟩⟩⟩
     case cons.cons.cons.cons.cons.cons.cons.cons.cons.cons.cons.cons.cons.cons.cons.cons.nil => rfl
     all_goals (exfalso; simp at hl; try omega)
    refine ⟨?_, rfl, ?_⟩
    ·show (XV.agg (bs.map X8)).pd = true
     rw [e]
     rfl
    ·show toAV (XV.agg (bs.map X8)) = toAV (adr fun i => bs.getD i 0)
     rw [e]
   ·cases h
  ·cases h
 ·cases h
def gp (a : Nat → Int) (j : Nat) : Int := a (2 * j) * 256 + a (2 * j + 1)
def zrun (a : Nat → Int) : Nat → Nat → Nat
 | 0, _ => 0
 | f + 1, i => if i < 8 ∧ gp a i = 0 then zrun a f (i + 1) + 1 else 0
def best (a : Nat → Int) : Nat → Int × Int
 | 0 => (-1, 1)
 | i + 1 => if (best a i).2 < (zrun a 9 i : Int) then ((i : Int), (zrun a 9 i : Int)) else best a i
def prT (a : Nat → Int) (b r : Int) : Nat → ByteArray
 | 0 => ⟨#[]⟩
 | k + 1 => if b ≤ (k : Int) ∧ (k : Int) < b + r then (if (k : Int) = b then prT a b r k ++ ⟨#[58, 58]⟩ else prT a b r k) else (if prT a b r k ≠ ⟨#[]⟩ ∧ hasSufB (prT a b r k) ⟨#[58]⟩ = false then prT a b r k ++ ⟨#[58]⟩ else prT a b r k) ++ hexB (gp a k).toNat
def prF (a : Nat → Int) (j : Nat) : ByteArray := itoaB (a (12 + j))
def prn (a : Nat → Int) : ByteArray := if is4 a = true then joinB ((List.range 4).map (prF a)) ⟨#[46]⟩ else prT a (best a 8).1 (best a 8).2 8
def is4L : CT := C1 dAL (fun _ => []) fun g => XB (is4 g)
theorem is4L_ok : CTok Tryz.prog 19 is4L := C1_ok cx0_ok Tryz.func19 rfl (by decide) dAL_eq.ok (by kernel_rfl) (fun _ => rfl) fun g _ => exv (is4V_eq g) (is4_v g)
def cxp : Cx := { cx0 with C := [(19, is4L), (25, itoaC), (39, joinC), (40, hasSufC), (27, fmtC)] }
theorem cxp_ok : cxp.ok Tryz.prog := ((((cx0_ok.addC fm_ok).addC hasSuf_ok).addC join_ok).addC itoa_ok).addC is4L_ok
structure KX where
 k : Nat
def grp (a : Nat → Int) : XRow := .one 69 true [XI (gp a 0), XI (gp a 1), XI (gp a 2), XI (gp a 3), XI (gp a 4), XI (gp a 5), XI (gp a 6), XI (gp a 7)]
def prR (a : Nat → Int) : List (Nat × XRow) := [(0, .one 27 true (adr a).cells), (1, grp a)]
def prC (a : Nat → Int) : Inv where
 σ := UX
 S := fun x => ⟨[(1, .ptr 0 0 0 0), (2, XT ⟨#[]⟩), (6, .ptr 1 0 0 0)], prR a, 2, false, []⟩
 inv := fun x => True
 μ := fun x => 0
def prB (a : Nat → Int) : Inv where
 σ := UX
 S := fun x => ⟨[(1, .ptr 0 0 0 0), (2, XT ⟨#[]⟩), (3, .sl 1 1 0 4)], [(0, .one 27 true (adr a).cells), (1, .vec 9 true 4 1 fun j => [XT (prF a j)])], 2, false, []⟩
 inv := fun x => is4 a = true
 μ := fun x => 0
def prI (a : Nat → Int) : Inv where
 σ := IXAd
 S := fun x => ⟨[(1, .ptr 0 0 0 0), (2, XT ⟨#[]⟩), (6, .ptr 1 0 0 0), (8, XI (best a x.i).1), (9, XI (best a x.i).2), (50, XI x.i)], prR a, 2, false, []⟩
 inv := fun x => x.i ≤ 8
 μ := fun x => 8 - x.i
def prJ (a : Nat → Int) (x : IXAd) : Inv where
 σ := KX
 S := fun y => ⟨[(1, .ptr 0 0 0 0), (2, XT ⟨#[]⟩), (6, .ptr 1 0 0 0), (8, XI (best a x.i).1), (9, XI (best a x.i).2), (50, XI x.i), (10, XI x.i), (11, XI y.k)], prR a, 2, false, []⟩
 inv := fun y => x.i + y.k ≤ 8 ∧ ∀ j, j < y.k → gp a (x.i + j) = 0
 μ := fun y => 8 - y.k
def prK (a : Nat → Int) : Inv where
 σ := IXAd
 S := fun x => ⟨[(1, .ptr 0 0 0 0), (2, XT ⟨#[]⟩), (6, .ptr 1 0 0 0), (8, XI (best a 8).1), (9, XI (best a 8).2), (12, XT (prT a (best a 8).1 (best a 8).2 x.i)), (13, XI x.i)], prR a, 2, false, []⟩
 inv := fun x => x.i ≤ 8 ∧ ((x.i : Int) ≤ (best a 8).1 ∨ (best a 8).1 + (best a 8).2 ≤ (x.i : Int))
 μ := fun x => 8 - x.i
def prE (a : Nat → Int) : Env := { loops := [(4, prI a), (8, prK a)], loopsP := [(6, ⟨IXAd, prJ a⟩)], cuts := [(8, prB a), (15, prC a)], rolls := [(0, 5), (2, 9)], own := [(3, [(3, 9, 1)])], frz := [(8, [3])] }
def prV_a (a : Nat → Int) :=
  (((27 : TypeId) = (27 : TypeId) ∧ true = true) ∧ a (0 : Nat) = a (0 : Nat) ∧ a (1 : Nat) = a (1 : Nat) ∧ a (2 : Nat) = a (2 : Nat) ∧ a (3 : Nat) = a (3 : Nat) ∧ a (4 : Nat) = a (4 : Nat) ∧ a (5 : Nat) = a (5 : Nat) ∧ a (6 : Nat) = a (6 : Nat) ∧ a (7 : Nat) = a (7 : Nat) ∧ a (8 : Nat) = a (8 : Nat) ∧ a (9 : Nat) = a (9 : Nat) ∧ a (10 : Nat) = a (10 : Nat) ∧ a (11 : Nat) = a (11 : Nat) ∧ a (12 : Nat) = a (12 : Nat) ∧ a (13 : Nat) = a (13 : Nat) ∧ a (14 : Nat) = a (14 : Nat) ∧ a (15 : Nat) = a (15 : Nat) ∧ True)
def prV_b (a : Nat → Int) :=
  (((69 : TypeId) = (69 : TypeId) ∧ true = true) ∧ gp a (0 : Nat) = gp a (0 : Nat) ∧ gp a (1 : Nat) = gp a (1 : Nat) ∧ gp a (2 : Nat) = gp a (2 : Nat) ∧ gp a (3 : Nat) = gp a (3 : Nat) ∧ gp a (4 : Nat) = gp a (4 : Nat) ∧ gp a (5 : Nat) = gp a (5 : Nat) ∧ gp a (6 : Nat) = gp a (6 : Nat) ∧ gp a (7 : Nat) = gp a (7 : Nat) ∧ True)
def prV_c (a : Nat → Int) :=
  (IntKind.i64.wrap ([a (0 : Nat), a (1 : Nat), a (2 : Nat), a (3 : Nat), a (4 : Nat), a (5 : Nat), a (6 : Nat), a (7 : Nat), a (8 : Nat), a (9 : Nat), a (10 : Nat), a (11 : Nat), a (12 : Nat), a (13 : Nat), a (14 : Nat), a (15 : Nat)].getD ((0 : Nat)) (0 : Int) * (2 : Int) ^ (8 : Nat)))
def prV_d (a : Nat → Int) :=
  ([a (0 : Nat), a (1 : Nat), a (2 : Nat), a (3 : Nat), a (4 : Nat), a (5 : Nat), a (6 : Nat), a (7 : Nat), a (8 : Nat), a (9 : Nat), a (10 : Nat), a (11 : Nat), a (12 : Nat), a (13 : Nat), a (14 : Nat), a (15 : Nat)].getD ((1 : Nat)) (0 : Int))
def prV_e (a : Nat → Int) :=
  (IntKind.i64.wrap ([a (0 : Nat), a (1 : Nat), a (2 : Nat), a (3 : Nat), a (4 : Nat), a (5 : Nat), a (6 : Nat), a (7 : Nat), a (8 : Nat), a (9 : Nat), a (10 : Nat), a (11 : Nat), a (12 : Nat), a (13 : Nat), a (14 : Nat), a (15 : Nat)].getD ((2 : Nat)) (0 : Int) * (2 : Int) ^ (8 : Nat)))
def prV_f (a : Nat → Int) :=
  ([a (0 : Nat), a (1 : Nat), a (2 : Nat), a (3 : Nat), a (4 : Nat), a (5 : Nat), a (6 : Nat), a (7 : Nat), a (8 : Nat), a (9 : Nat), a (10 : Nat), a (11 : Nat), a (12 : Nat), a (13 : Nat), a (14 : Nat), a (15 : Nat)].getD ((3 : Nat)) (0 : Int))
def prV_g (a : Nat → Int) :=
  ([a (0 : Nat), a (1 : Nat), a (2 : Nat), a (3 : Nat), a (4 : Nat), a (5 : Nat), a (6 : Nat), a (7 : Nat), a (8 : Nat), a (9 : Nat), a (10 : Nat), a (11 : Nat), a (12 : Nat), a (13 : Nat), a (14 : Nat), a (15 : Nat)].getD ((5 : Nat)) (0 : Int))
def prV_h (a : Nat → Int) :=
  (IntKind.i64.wrap ([a (0 : Nat), a (1 : Nat), a (2 : Nat), a (3 : Nat), a (4 : Nat), a (5 : Nat), a (6 : Nat), a (7 : Nat), a (8 : Nat), a (9 : Nat), a (10 : Nat), a (11 : Nat), a (12 : Nat), a (13 : Nat), a (14 : Nat), a (15 : Nat)].getD ((4 : Nat)) (0 : Int) * (2 : Int) ^ (8 : Nat)))
def prV_i (a : Nat → Int) :=
  ([a (0 : Nat), a (1 : Nat), a (2 : Nat), a (3 : Nat), a (4 : Nat), a (5 : Nat), a (6 : Nat), a (7 : Nat), a (8 : Nat), a (9 : Nat), a (10 : Nat), a (11 : Nat), a (12 : Nat), a (13 : Nat), a (14 : Nat), a (15 : Nat)].getD ((7 : Nat)) (0 : Int))
def prV_j (a : Nat → Int) :=
  (IntKind.i64.wrap ([a (0 : Nat), a (1 : Nat), a (2 : Nat), a (3 : Nat), a (4 : Nat), a (5 : Nat), a (6 : Nat), a (7 : Nat), a (8 : Nat), a (9 : Nat), a (10 : Nat), a (11 : Nat), a (12 : Nat), a (13 : Nat), a (14 : Nat), a (15 : Nat)].getD ((6 : Nat)) (0 : Int) * (2 : Int) ^ (8 : Nat)))
def prV_k (a : Nat → Int) :=
  ([a (0 : Nat), a (1 : Nat), a (2 : Nat), a (3 : Nat), a (4 : Nat), a (5 : Nat), a (6 : Nat), a (7 : Nat), a (8 : Nat), a (9 : Nat), a (10 : Nat), a (11 : Nat), a (12 : Nat), a (13 : Nat), a (14 : Nat), a (15 : Nat)].getD ((13 : Nat)) (0 : Int))
def prV_l (a : Nat → Int) :=
  ([a (0 : Nat), a (1 : Nat), a (2 : Nat), a (3 : Nat), a (4 : Nat), a (5 : Nat), a (6 : Nat), a (7 : Nat), a (8 : Nat), a (9 : Nat), a (10 : Nat), a (11 : Nat), a (12 : Nat), a (13 : Nat), a (14 : Nat), a (15 : Nat)].getD ((9 : Nat)) (0 : Int))
def prV_m (a : Nat → Int) :=
  (IntKind.i64.wrap ([a (0 : Nat), a (1 : Nat), a (2 : Nat), a (3 : Nat), a (4 : Nat), a (5 : Nat), a (6 : Nat), a (7 : Nat), a (8 : Nat), a (9 : Nat), a (10 : Nat), a (11 : Nat), a (12 : Nat), a (13 : Nat), a (14 : Nat), a (15 : Nat)].getD ((8 : Nat)) (0 : Int) * (2 : Int) ^ (8 : Nat)))
def prV_n (a : Nat → Int) :=
  ([a (0 : Nat), a (1 : Nat), a (2 : Nat), a (3 : Nat), a (4 : Nat), a (5 : Nat), a (6 : Nat), a (7 : Nat), a (8 : Nat), a (9 : Nat), a (10 : Nat), a (11 : Nat), a (12 : Nat), a (13 : Nat), a (14 : Nat), a (15 : Nat)].getD ((15 : Nat)) (0 : Int))
def prV_o (a : Nat → Int) :=
  ([a (0 : Nat), a (1 : Nat), a (2 : Nat), a (3 : Nat), a (4 : Nat), a (5 : Nat), a (6 : Nat), a (7 : Nat), a (8 : Nat), a (9 : Nat), a (10 : Nat), a (11 : Nat), a (12 : Nat), a (13 : Nat), a (14 : Nat), a (15 : Nat)].getD ((11 : Nat)) (0 : Int))
def prV_p :=
  ((0 : Int) + (1 : Int) + (1 : Int) + (1 : Int) + (1 : Int) + (1 : Int) + (1 : Int) + (1 : Int))
def prV_q (a : Nat → Int) :=
  (IntKind.i64.wrap ([a (0 : Nat), a (1 : Nat), a (2 : Nat), a (3 : Nat), a (4 : Nat), a (5 : Nat), a (6 : Nat), a (7 : Nat), a (8 : Nat), a (9 : Nat), a (10 : Nat), a (11 : Nat), a (12 : Nat), a (13 : Nat), a (14 : Nat), a (15 : Nat)].getD ((10 : Nat)) (0 : Int) * (2 : Int) ^ (8 : Nat)))
def prV_r (a : Nat → Int) :=
  (((27 : Nat) = (27 : TypeId) ∧ true = true) ∧ a (0 : Nat) = a (0 : Nat) ∧ a (1 : Nat) = a (1 : Nat) ∧ a (2 : Nat) = a (2 : Nat) ∧ a (3 : Nat) = a (3 : Nat) ∧ a (4 : Nat) = a (4 : Nat) ∧ a (5 : Nat) = a (5 : Nat) ∧ a (6 : Nat) = a (6 : Nat) ∧ a (7 : Nat) = a (7 : Nat) ∧ a (8 : Nat) = a (8 : Nat) ∧ a (9 : Nat) = a (9 : Nat) ∧ a (10 : Nat) = a (10 : Nat) ∧ a (11 : Nat) = a (11 : Nat) ∧ a (12 : Nat) = a (12 : Nat) ∧ a (13 : Nat) = a (13 : Nat) ∧ a (14 : Nat) = a (14 : Nat) ∧ a (15 : Nat) = a (15 : Nat) ∧ True)
def prV_s :=
  ((0 : Int) + (1 : Int) + (1 : Int) + (1 : Int) + (1 : Int) + (1 : Int) + (1 : Int))
def prV_t (a : Nat → Int) :=
  ([a (0 : Nat), a (1 : Nat), a (2 : Nat), a (3 : Nat), a (4 : Nat), a (5 : Nat), a (6 : Nat), a (7 : Nat), a (8 : Nat), a (9 : Nat), a (10 : Nat), a (11 : Nat), a (12 : Nat), a (13 : Nat), a (14 : Nat), a (15 : Nat)].getD ((12 : Nat)) (0 : Int))
def prV_u (a : Nat → Int) :=
  ([a (0 : Nat), a (1 : Nat), a (2 : Nat), a (3 : Nat), a (4 : Nat), a (5 : Nat), a (6 : Nat), a (7 : Nat), a (8 : Nat), a (9 : Nat), a (10 : Nat), a (11 : Nat), a (12 : Nat), a (13 : Nat), a (14 : Nat), a (15 : Nat)].getD ((14 : Nat)) (0 : Int))
def prV_v (a : Nat → Int) (x : IXAd) :=
  ([gp a (0 : Nat), gp a (1 : Nat), gp a (2 : Nat), gp a (3 : Nat), gp a (4 : Nat), gp a (5 : Nat), gp a (6 : Nat), gp a (7 : Nat)].getD (↑x.i : Int).toNat (0 : Int))
def prV_w :=
  ((0 : Int) + (1 : Int) + (1 : Int) + (1 : Int) + (1 : Int) + (1 : Int))
def prV_x :=
  ((0 : Int) + (1 : Int) + (1 : Int) + (1 : Int) + (1 : Int))
def prV_y :=
  ((0 : Int) + (1 : Int) + (1 : Int) + (1 : Int))
def prV (a : Nat → Int) : Prop :=
  ((is4 fun (i : Nat) => [a (0 : Nat), a (1 : Nat), a (2 : Nat), a (3 : Nat), a (4 : Nat), a (5 : Nat), a (6 : Nat), a (7 : Nat), a (8 : Nat), a (9 : Nat), a (10 : Nat), a (11 : Nat), a (12 : Nat), a (13 : Nat), a (14 : Nat), a (15 : Nat)].getD i (0 : Int)) = true → ((0 : Int) ≤ (12 : Int) ∧ (12 : Int) ≤ (↑(16 : Nat) : Int) ∧ (↑(16 : Nat) : Int) ≤ (↑(16 : Nat) : Int) ∧ (0 : Int) ≤ (0 : Int) ∧ (0 : Int) < (↑((4 : Nat)) : Int) ∧ (12 : Nat) < [a (0 : Nat), a (1 : Nat), a (2 : Nat), a (3 : Nat), a (4 : Nat), a (5 : Nat), a (6 : Nat), a (7 : Nat), a (8 : Nat), a (9 : Nat), a (10 : Nat), a (11 : Nat), a (12 : Nat), a (13 : Nat), a (14 : Nat), a (15 : Nat)].length ∧ in64 (prV_t a) ∧ (0 : Int) ≤ [a (0 : Nat), a (1 : Nat), a (2 : Nat), a (3 : Nat), a (4 : Nat), a (5 : Nat), a (6 : Nat), a (7 : Nat), a (8 : Nat), a (9 : Nat), a (10 : Nat), a (11 : Nat), a (12 : Nat), a (13 : Nat), a (14 : Nat), a (15 : Nat)].getD ((12 : Nat)) (0 : Int) ∧ [a (0 : Nat), a (1 : Nat), a (2 : Nat), a (3 : Nat), a (4 : Nat), a (5 : Nat), a (6 : Nat), a (7 : Nat), a (8 : Nat), a (9 : Nat), a (10 : Nat), a (11 : Nat), a (12 : Nat), a (13 : Nat), a (14 : Nat), a (15 : Nat)].getD ((12 : Nat)) (0 : Int) ≤ (1000000 : Int) ∧ (0 : Nat) = (0 : Nat) ∧ (16 : Nat) ≤ (140737488355328 : Nat) ∧ (1 : Nat) ≤ (140737488355328 : Nat) ∧ in64 ((0 : Int) + (1 : Int)) ∧ (0 : Int) ≤ (0 : Int) + (1 : Int) ∧ (0 : Int) + (1 : Int) < (↑((4 : Nat)) : Int) ∧ (13 : Nat) < [a (0 : Nat), a (1 : Nat), a (2 : Nat), a (3 : Nat), a (4 : Nat), a (5 : Nat), a (6 : Nat), a (7 : Nat), a (8 : Nat), a (9 : Nat), a (10 : Nat), a (11 : Nat), a (12 : Nat), a (13 : Nat), a (14 : Nat), a (15 : Nat)].length ∧ in64 (prV_k a) ∧ (0 : Int) ≤ [a (0 : Nat), a (1 : Nat), a (2 : Nat), a (3 : Nat), a (4 : Nat), a (5 : Nat), a (6 : Nat), a (7 : Nat), a (8 : Nat), a (9 : Nat), a (10 : Nat), a (11 : Nat), a (12 : Nat), a (13 : Nat), a (14 : Nat), a (15 : Nat)].getD ((13 : Nat)) (0 : Int) ∧ [a (0 : Nat), a (1 : Nat), a (2 : Nat), a (3 : Nat), a (4 : Nat), a (5 : Nat), a (6 : Nat), a (7 : Nat), a (8 : Nat), a (9 : Nat), a (10 : Nat), a (11 : Nat), a (12 : Nat), a (13 : Nat), a (14 : Nat), a (15 : Nat)].getD ((13 : Nat)) (0 : Int) ≤ (1000000 : Int) ∧ (1 : Nat) = (1 : Nat) ∧ (32 : Nat) ≤ (140737488355328 : Nat) ∧ (2 : Nat) ≤ (140737488355328 : Nat) ∧ in64 ((0 : Int) + (1 : Int) + (1 : Int)) ∧ (0 : Int) ≤ (0 : Int) + (1 : Int) + (1 : Int) ∧ (0 : Int) + (1 : Int) + (1 : Int) < (↑((4 : Nat)) : Int) ∧ (14 : Nat) < [a (0 : Nat), a (1 : Nat), a (2 : Nat), a (3 : Nat), a (4 : Nat), a (5 : Nat), a (6 : Nat), a (7 : Nat), a (8 : Nat), a (9 : Nat), a (10 : Nat), a (11 : Nat), a (12 : Nat), a (13 : Nat), a (14 : Nat), a (15 : Nat)].length ∧ in64 (prV_u a) ∧ (0 : Int) ≤ [a (0 : Nat), a (1 : Nat), a (2 : Nat), a (3 : Nat), a (4 : Nat), a (5 : Nat), a (6 : Nat), a (7 : Nat), a (8 : Nat), a (9 : Nat), a (10 : Nat), a (11 : Nat), a (12 : Nat), a (13 : Nat), a (14 : Nat), a (15 : Nat)].getD ((14 : Nat)) (0 : Int) ∧ [a (0 : Nat), a (1 : Nat), a (2 : Nat), a (3 : Nat), a (4 : Nat), a (5 : Nat), a (6 : Nat), a (7 : Nat), a (8 : Nat), a (9 : Nat), a (10 : Nat), a (11 : Nat), a (12 : Nat), a (13 : Nat), a (14 : Nat), a (15 : Nat)].getD ((14 : Nat)) (0 : Int) ≤ (1000000 : Int) ∧ (2 : Nat) = (2 : Nat) ∧ (48 : Nat) ≤ (140737488355328 : Nat) ∧ (3 : Nat) ≤ (140737488355328 : Nat) ∧ in64 prV_y ∧ (0 : Int) ≤ (0 : Int) + (1 : Int) + (1 : Int) + (1 : Int) ∧ (0 : Int) + (1 : Int) + (1 : Int) + (1 : Int) < (↑((4 : Nat)) : Int) ∧ (15 : Nat) < [a (0 : Nat), a (1 : Nat), a (2 : Nat), a (3 : Nat), a (4 : Nat), a (5 : Nat), a (6 : Nat), a (7 : Nat), a (8 : Nat), a (9 : Nat), a (10 : Nat), a (11 : Nat), a (12 : Nat), a (13 : Nat), a (14 : Nat), a (15 : Nat)].length ∧ in64 (prV_n a) ∧ (0 : Int) ≤ [a (0 : Nat), a (1 : Nat), a (2 : Nat), a (3 : Nat), a (4 : Nat), a (5 : Nat), a (6 : Nat), a (7 : Nat), a (8 : Nat), a (9 : Nat), a (10 : Nat), a (11 : Nat), a (12 : Nat), a (13 : Nat), a (14 : Nat), a (15 : Nat)].getD ((15 : Nat)) (0 : Int) ∧ [a (0 : Nat), a (1 : Nat), a (2 : Nat), a (3 : Nat), a (4 : Nat), a (5 : Nat), a (6 : Nat), a (7 : Nat), a (8 : Nat), a (9 : Nat), a (10 : Nat), a (11 : Nat), a (12 : Nat), a (13 : Nat), a (14 : Nat), a (15 : Nat)].getD ((15 : Nat)) (0 : Int) ≤ (1000000 : Int) ∧ (3 : Nat) = (3 : Nat) ∧ (64 : Nat) ≤ (140737488355328 : Nat) ∧ (4 : Nat) ≤ (140737488355328 : Nat) ∧ in64 prV_x ∧ ∃ (x : (prB a).σ), is4 a = true ∧ true = true ∧ XV.ptr (0 : Nat) (0 : Nat) (0 : Nat) (0 : Nat) = XV.ptr (0 : Nat) (0 : Nat) (0 : Nat) (0 : Nat) ∧ { data := #[] : ByteArray } = { data := #[] : ByteArray } ∧ XV.sl ((0 : Nat) + (1 : Nat)) (1 : Nat) (0 : Nat) ((4 : Nat)) = XV.sl (1 : Nat) (1 : Nat) (0 : Nat) (4 : Nat) ∧ (prV_r a) ∧ (((9 : TypeId) = (9 : TypeId) ∧ true = true ∧ (1 : Nat) = (1 : Nat)) ∧ (4 : Nat) = (4 : Nat) ∧ ∀ (j : Nat), j < (4 : Nat) → [XT (bif j.blt ((3 : Nat)) then bif j.blt ((2 : Nat)) then bif j.blt ((1 : Nat)) then itoaB (prV_t a) else itoaB (prV_k a) else itoaB (prV_u a) else itoaB (prV_n a))] = [XT (prF a j)]) ∧ True) ∧ ∀ (x : UX), is4 a = true → (4 : Nat) = (4 : Nat) ∧ (∀ (i : Nat), i < (4 : Nat) → [XT (prF a i)] = [XT (prF a i)]) ∧ (4 : Nat) ≤ (1000 : Nat) ∧ (∀ (i : Nat), i < (4 : Nat) → (prF a i).size ≤ (1000000 : Nat)) ∧ (1 : Nat) ≤ (1000 : Nat) ∧ joinB [prF a ((0 : Nat)), prF a ((1 : Nat)), prF a ((2 : Nat)), prF a ((3 : Nat))] { data := #[(46 : UInt8)] : ByteArray } = prn a) ∧ ((is4 fun (i : Nat) => [a (0 : Nat), a (1 : Nat), a (2 : Nat), a (3 : Nat), a (4 : Nat), a (5 : Nat), a (6 : Nat), a (7 : Nat), a (8 : Nat), a (9 : Nat), a (10 : Nat), a (11 : Nat), a (12 : Nat), a (13 : Nat), a (14 : Nat), a (15 : Nat)].getD i (0 : Int)) = false → (in64 ((2 : Int) * (0 : Int)) ∧ (0 : Int) ≤ (2 : Int) * (0 : Int) ∧ (2 : Int) * (0 : Int) < (↑(16 : Nat) : Int) ∧ (0 : Nat) < [a (0 : Nat), a (1 : Nat), a (2 : Nat), a (3 : Nat), a (4 : Nat), a (5 : Nat), a (6 : Nat), a (7 : Nat), a (8 : Nat), a (9 : Nat), a (10 : Nat), a (11 : Nat), a (12 : Nat), a (13 : Nat), a (14 : Nat), a (15 : Nat)].length ∧ in64 ([a (0 : Nat), a (1 : Nat), a (2 : Nat), a (3 : Nat), a (4 : Nat), a (5 : Nat), a (6 : Nat), a (7 : Nat), a (8 : Nat), a (9 : Nat), a (10 : Nat), a (11 : Nat), a (12 : Nat), a (13 : Nat), a (14 : Nat), a (15 : Nat)].getD ((0 : Nat)) (0 : Int)) ∧ in64 ((2 : Int) * (0 : Int)) ∧ in64 ((2 : Int) * (0 : Int) + (1 : Int)) ∧ (0 : Int) ≤ (2 : Int) * (0 : Int) + (1 : Int) ∧ (2 : Int) * (0 : Int) + (1 : Int) < (↑(16 : Nat) : Int) ∧ (1 : Nat) < [a (0 : Nat), a (1 : Nat), a (2 : Nat), a (3 : Nat), a (4 : Nat), a (5 : Nat), a (6 : Nat), a (7 : Nat), a (8 : Nat), a (9 : Nat), a (10 : Nat), a (11 : Nat), a (12 : Nat), a (13 : Nat), a (14 : Nat), a (15 : Nat)].length ∧ in64 (prV_d a) ∧ (0 : Int) ≤ (0 : Int) ∧ (0 : Int) < (↑(8 : Nat) : Int) ∧ (0 : Nat) < (8 : Nat) ∧ in64 ((0 : Int) + (1 : Int)) ∧ in64 ((2 : Int) * ((0 : Int) + (1 : Int))) ∧ (0 : Int) ≤ (2 : Int) * ((0 : Int) + (1 : Int)) ∧ (2 : Int) * ((0 : Int) + (1 : Int)) < (↑(16 : Nat) : Int) ∧ (2 : Nat) < [a (0 : Nat), a (1 : Nat), a (2 : Nat), a (3 : Nat), a (4 : Nat), a (5 : Nat), a (6 : Nat), a (7 : Nat), a (8 : Nat), a (9 : Nat), a (10 : Nat), a (11 : Nat), a (12 : Nat), a (13 : Nat), a (14 : Nat), a (15 : Nat)].length ∧ in64 ([a (0 : Nat), a (1 : Nat), a (2 : Nat), a (3 : Nat), a (4 : Nat), a (5 : Nat), a (6 : Nat), a (7 : Nat), a (8 : Nat), a (9 : Nat), a (10 : Nat), a (11 : Nat), a (12 : Nat), a (13 : Nat), a (14 : Nat), a (15 : Nat)].getD ((2 : Nat)) (0 : Int)) ∧ in64 ((2 : Int) * ((0 : Int) + (1 : Int))) ∧ in64 ((2 : Int) * ((0 : Int) + (1 : Int)) + (1 : Int)) ∧ (0 : Int) ≤ (2 : Int) * ((0 : Int) + (1 : Int)) + (1 : Int) ∧ (2 : Int) * ((0 : Int) + (1 : Int)) + (1 : Int) < (↑(16 : Nat) : Int) ∧ (3 : Nat) < [a (0 : Nat), a (1 : Nat), a (2 : Nat), a (3 : Nat), a (4 : Nat), a (5 : Nat), a (6 : Nat), a (7 : Nat), a (8 : Nat), a (9 : Nat), a (10 : Nat), a (11 : Nat), a (12 : Nat), a (13 : Nat), a (14 : Nat), a (15 : Nat)].length ∧ in64 (prV_f a) ∧ (0 : Int) ≤ (0 : Int) + (1 : Int) ∧ (0 : Int) + (1 : Int) < (↑(8 : Nat) : Int) ∧ (1 : Nat) < [bits BinOp.or IntKind.i64 (prV_c a) (prV_d a), (0 : Int), (0 : Int), (0 : Int), (0 : Int), (0 : Int), (0 : Int), (0 : Int)].length ∧ in64 ((0 : Int) + (1 : Int) + (1 : Int)) ∧ in64 ((2 : Int) * ((0 : Int) + (1 : Int) + (1 : Int))) ∧ (0 : Int) ≤ (2 : Int) * ((0 : Int) + (1 : Int) + (1 : Int)) ∧ (2 : Int) * ((0 : Int) + (1 : Int) + (1 : Int)) < (↑(16 : Nat) : Int) ∧ (4 : Nat) < [a (0 : Nat), a (1 : Nat), a (2 : Nat), a (3 : Nat), a (4 : Nat), a (5 : Nat), a (6 : Nat), a (7 : Nat), a (8 : Nat), a (9 : Nat), a (10 : Nat), a (11 : Nat), a (12 : Nat), a (13 : Nat), a (14 : Nat), a (15 : Nat)].length ∧ in64 ([a (0 : Nat), a (1 : Nat), a (2 : Nat), a (3 : Nat), a (4 : Nat), a (5 : Nat), a (6 : Nat), a (7 : Nat), a (8 : Nat), a (9 : Nat), a (10 : Nat), a (11 : Nat), a (12 : Nat), a (13 : Nat), a (14 : Nat), a (15 : Nat)].getD ((4 : Nat)) (0 : Int)) ∧ in64 ((2 : Int) * ((0 : Int) + (1 : Int) + (1 : Int))) ∧ in64 ((2 : Int) * ((0 : Int) + (1 : Int) + (1 : Int)) + (1 : Int)) ∧ (0 : Int) ≤ (2 : Int) * ((0 : Int) + (1 : Int) + (1 : Int)) + (1 : Int) ∧ (2 : Int) * ((0 : Int) + (1 : Int) + (1 : Int)) + (1 : Int) < (↑(16 : Nat) : Int) ∧ (5 : Nat) < [a (0 : Nat), a (1 : Nat), a (2 : Nat), a (3 : Nat), a (4 : Nat), a (5 : Nat), a (6 : Nat), a (7 : Nat), a (8 : Nat), a (9 : Nat), a (10 : Nat), a (11 : Nat), a (12 : Nat), a (13 : Nat), a (14 : Nat), a (15 : Nat)].length ∧ in64 (prV_g a) ∧ (0 : Int) ≤ (0 : Int) + (1 : Int) + (1 : Int) ∧ (0 : Int) + (1 : Int) + (1 : Int) < (↑(8 : Nat) : Int) ∧ (2 : Nat) < [bits BinOp.or IntKind.i64 (prV_c a) (prV_d a), bits BinOp.or IntKind.i64 (prV_e a) (prV_f a), (0 : Int), (0 : Int), (0 : Int), (0 : Int), (0 : Int), (0 : Int)].length ∧ in64 prV_y ∧ in64 ((2 : Int) * prV_y) ∧ (0 : Int) ≤ (2 : Int) * prV_y ∧ (2 : Int) * prV_y < (↑(16 : Nat) : Int) ∧ (6 : Nat) < [a (0 : Nat), a (1 : Nat), a (2 : Nat), a (3 : Nat), a (4 : Nat), a (5 : Nat), a (6 : Nat), a (7 : Nat), a (8 : Nat), a (9 : Nat), a (10 : Nat), a (11 : Nat), a (12 : Nat), a (13 : Nat), a (14 : Nat), a (15 : Nat)].length ∧ in64 ([a (0 : Nat), a (1 : Nat), a (2 : Nat), a (3 : Nat), a (4 : Nat), a (5 : Nat), a (6 : Nat), a (7 : Nat), a (8 : Nat), a (9 : Nat), a (10 : Nat), a (11 : Nat), a (12 : Nat), a (13 : Nat), a (14 : Nat), a (15 : Nat)].getD ((6 : Nat)) (0 : Int)) ∧ in64 ((2 : Int) * prV_y) ∧ in64 ((2 : Int) * prV_y + (1 : Int)) ∧ (0 : Int) ≤ (2 : Int) * prV_y + (1 : Int) ∧ (2 : Int) * prV_y + (1 : Int) < (↑(16 : Nat) : Int) ∧ (7 : Nat) < [a (0 : Nat), a (1 : Nat), a (2 : Nat), a (3 : Nat), a (4 : Nat), a (5 : Nat), a (6 : Nat), a (7 : Nat), a (8 : Nat), a (9 : Nat), a (10 : Nat), a (11 : Nat), a (12 : Nat), a (13 : Nat), a (14 : Nat), a (15 : Nat)].length ∧ in64 (prV_i a) ∧ (0 : Int) ≤ (0 : Int) + (1 : Int) + (1 : Int) + (1 : Int) ∧ (0 : Int) + (1 : Int) + (1 : Int) + (1 : Int) < (↑(8 : Nat) : Int) ∧ (3 : Nat) < [bits BinOp.or IntKind.i64 (prV_c a) (prV_d a), bits BinOp.or IntKind.i64 (prV_e a) (prV_f a), bits BinOp.or IntKind.i64 (prV_h a) (prV_g a), (0 : Int), (0 : Int), (0 : Int), (0 : Int), (0 : Int)].length ∧ in64 prV_x ∧ in64 ((2 : Int) * prV_x) ∧ (0 : Int) ≤ (2 : Int) * prV_x ∧ (2 : Int) * prV_x < (↑(16 : Nat) : Int) ∧ (8 : Nat) < [a (0 : Nat), a (1 : Nat), a (2 : Nat), a (3 : Nat), a (4 : Nat), a (5 : Nat), a (6 : Nat), a (7 : Nat), a (8 : Nat), a (9 : Nat), a (10 : Nat), a (11 : Nat), a (12 : Nat), a (13 : Nat), a (14 : Nat), a (15 : Nat)].length ∧ in64 ([a (0 : Nat), a (1 : Nat), a (2 : Nat), a (3 : Nat), a (4 : Nat), a (5 : Nat), a (6 : Nat), a (7 : Nat), a (8 : Nat), a (9 : Nat), a (10 : Nat), a (11 : Nat), a (12 : Nat), a (13 : Nat), a (14 : Nat), a (15 : Nat)].getD ((8 : Nat)) (0 : Int)) ∧ in64 ((2 : Int) * prV_x) ∧ in64 ((2 : Int) * prV_x + (1 : Int)) ∧ (0 : Int) ≤ (2 : Int) * prV_x + (1 : Int) ∧ (2 : Int) * prV_x + (1 : Int) < (↑(16 : Nat) : Int) ∧ (9 : Nat) < [a (0 : Nat), a (1 : Nat), a (2 : Nat), a (3 : Nat), a (4 : Nat), a (5 : Nat), a (6 : Nat), a (7 : Nat), a (8 : Nat), a (9 : Nat), a (10 : Nat), a (11 : Nat), a (12 : Nat), a (13 : Nat), a (14 : Nat), a (15 : Nat)].length ∧ in64 (prV_l a) ∧ (0 : Int) ≤ (0 : Int) + (1 : Int) + (1 : Int) + (1 : Int) + (1 : Int) ∧ (0 : Int) + (1 : Int) + (1 : Int) + (1 : Int) + (1 : Int) < (↑(8 : Nat) : Int) ∧ (4 : Nat) < [bits BinOp.or IntKind.i64 (prV_c a) (prV_d a), bits BinOp.or IntKind.i64 (prV_e a) (prV_f a), bits BinOp.or IntKind.i64 (prV_h a) (prV_g a), bits BinOp.or IntKind.i64 (prV_j a) (prV_i a), (0 : Int), (0 : Int), (0 : Int), (0 : Int)].length ∧ in64 prV_w ∧ in64 ((2 : Int) * prV_w) ∧ (0 : Int) ≤ (2 : Int) * prV_w ∧ (2 : Int) * prV_w < (↑(16 : Nat) : Int) ∧ (10 : Nat) < [a (0 : Nat), a (1 : Nat), a (2 : Nat), a (3 : Nat), a (4 : Nat), a (5 : Nat), a (6 : Nat), a (7 : Nat), a (8 : Nat), a (9 : Nat), a (10 : Nat), a (11 : Nat), a (12 : Nat), a (13 : Nat), a (14 : Nat), a (15 : Nat)].length ∧ in64 ([a (0 : Nat), a (1 : Nat), a (2 : Nat), a (3 : Nat), a (4 : Nat), a (5 : Nat), a (6 : Nat), a (7 : Nat), a (8 : Nat), a (9 : Nat), a (10 : Nat), a (11 : Nat), a (12 : Nat), a (13 : Nat), a (14 : Nat), a (15 : Nat)].getD ((10 : Nat)) (0 : Int)) ∧ in64 ((2 : Int) * prV_w) ∧ in64 ((2 : Int) * prV_w + (1 : Int)) ∧ (0 : Int) ≤ (2 : Int) * prV_w + (1 : Int) ∧ (2 : Int) * prV_w + (1 : Int) < (↑(16 : Nat) : Int) ∧ (11 : Nat) < [a (0 : Nat), a (1 : Nat), a (2 : Nat), a (3 : Nat), a (4 : Nat), a (5 : Nat), a (6 : Nat), a (7 : Nat), a (8 : Nat), a (9 : Nat), a (10 : Nat), a (11 : Nat), a (12 : Nat), a (13 : Nat), a (14 : Nat), a (15 : Nat)].length ∧ in64 (prV_o a) ∧ (0 : Int) ≤ (0 : Int) + (1 : Int) + (1 : Int) + (1 : Int) + (1 : Int) + (1 : Int) ∧ (0 : Int) + (1 : Int) + (1 : Int) + (1 : Int) + (1 : Int) + (1 : Int) < (↑(8 : Nat) : Int) ∧ (5 : Nat) < [bits BinOp.or IntKind.i64 (prV_c a) (prV_d a), bits BinOp.or IntKind.i64 (prV_e a) (prV_f a), bits BinOp.or IntKind.i64 (prV_h a) (prV_g a), bits BinOp.or IntKind.i64 (prV_j a) (prV_i a), bits BinOp.or IntKind.i64 (prV_m a) (prV_l a), (0 : Int), (0 : Int), (0 : Int)].length ∧ in64 prV_s ∧ in64 ((2 : Int) * prV_s) ∧ (0 : Int) ≤ (2 : Int) * prV_s ∧ (2 : Int) * prV_s < (↑(16 : Nat) : Int) ∧ (12 : Nat) < [a (0 : Nat), a (1 : Nat), a (2 : Nat), a (3 : Nat), a (4 : Nat), a (5 : Nat), a (6 : Nat), a (7 : Nat), a (8 : Nat), a (9 : Nat), a (10 : Nat), a (11 : Nat), a (12 : Nat), a (13 : Nat), a (14 : Nat), a (15 : Nat)].length ∧ in64 (prV_t a) ∧ in64 ((2 : Int) * prV_s) ∧ in64 ((2 : Int) * prV_s + (1 : Int)) ∧ (0 : Int) ≤ (2 : Int) * prV_s + (1 : Int) ∧ (2 : Int) * prV_s + (1 : Int) < (↑(16 : Nat) : Int) ∧ (13 : Nat) < [a (0 : Nat), a (1 : Nat), a (2 : Nat), a (3 : Nat), a (4 : Nat), a (5 : Nat), a (6 : Nat), a (7 : Nat), a (8 : Nat), a (9 : Nat), a (10 : Nat), a (11 : Nat), a (12 : Nat), a (13 : Nat), a (14 : Nat), a (15 : Nat)].length ∧ in64 (prV_k a) ∧ (0 : Int) ≤ (0 : Int) + (1 : Int) + (1 : Int) + (1 : Int) + (1 : Int) + (1 : Int) + (1 : Int) ∧ (0 : Int) + (1 : Int) + (1 : Int) + (1 : Int) + (1 : Int) + (1 : Int) + (1 : Int) < (↑(8 : Nat) : Int) ∧ (6 : Nat) < [bits BinOp.or IntKind.i64 (prV_c a) (prV_d a), bits BinOp.or IntKind.i64 (prV_e a) (prV_f a), bits BinOp.or IntKind.i64 (prV_h a) (prV_g a), bits BinOp.or IntKind.i64 (prV_j a) (prV_i a), bits BinOp.or IntKind.i64 (prV_m a) (prV_l a), bits BinOp.or IntKind.i64 (prV_q a) (prV_o a), (0 : Int), (0 : Int)].length ∧ in64 prV_p ∧ in64 ((2 : Int) * prV_p) ∧ (0 : Int) ≤ (2 : Int) * prV_p ∧ (2 : Int) * prV_p < (↑(16 : Nat) : Int) ∧ (14 : Nat) < [a (0 : Nat), a (1 : Nat), a (2 : Nat), a (3 : Nat), a (4 : Nat), a (5 : Nat), a (6 : Nat), a (7 : Nat), a (8 : Nat), a (9 : Nat), a (10 : Nat), a (11 : Nat), a (12 : Nat), a (13 : Nat), a (14 : Nat), a (15 : Nat)].length ∧ in64 (prV_u a) ∧ in64 ((2 : Int) * prV_p) ∧ in64 ((2 : Int) * prV_p + (1 : Int)) ∧ (0 : Int) ≤ (2 : Int) * prV_p + (1 : Int) ∧ (2 : Int) * prV_p + (1 : Int) < (↑(16 : Nat) : Int) ∧ (15 : Nat) < [a (0 : Nat), a (1 : Nat), a (2 : Nat), a (3 : Nat), a (4 : Nat), a (5 : Nat), a (6 : Nat), a (7 : Nat), a (8 : Nat), a (9 : Nat), a (10 : Nat), a (11 : Nat), a (12 : Nat), a (13 : Nat), a (14 : Nat), a (15 : Nat)].length ∧ in64 (prV_n a) ∧ (0 : Int) ≤ (0 : Int) + (1 : Int) + (1 : Int) + (1 : Int) + (1 : Int) + (1 : Int) + (1 : Int) + (1 : Int) ∧ (0 : Int) + (1 : Int) + (1 : Int) + (1 : Int) + (1 : Int) + (1 : Int) + (1 : Int) + (1 : Int) < (↑(8 : Nat) : Int) ∧ (7 : Nat) < [bits BinOp.or IntKind.i64 (prV_c a) (prV_d a), bits BinOp.or IntKind.i64 (prV_e a) (prV_f a), bits BinOp.or IntKind.i64 (prV_h a) (prV_g a), bits BinOp.or IntKind.i64 (prV_j a) (prV_i a), bits BinOp.or IntKind.i64 (prV_m a) (prV_l a), bits BinOp.or IntKind.i64 (prV_q a) (prV_o a), bits BinOp.or IntKind.i64 (IntKind.i64.wrap ([a (0 : Nat), a (1 : Nat), a (2 : Nat), a (3 : Nat), a (4 : Nat), a (5 : Nat), a (6 : Nat), a (7 : Nat), a (8 : Nat), a (9 : Nat), a (10 : Nat), a (11 : Nat), a (12 : Nat), a (13 : Nat), a (14 : Nat), a (15 : Nat)].getD ((12 : Nat)) (0 : Int) * (2 : Int) ^ (8 : Nat))) (prV_k a), (0 : Int)].length ∧ in64 ((0 : Int) + (1 : Int) + (1 : Int) + (1 : Int) + (1 : Int) + (1 : Int) + (1 : Int) + (1 : Int) + (1 : Int)) ∧ ∃ (x : (prC a).σ), True ∧ true = true ∧ XV.ptr (0 : Nat) (0 : Nat) (0 : Nat) (0 : Nat) = XV.ptr (0 : Nat) (0 : Nat) (0 : Nat) (0 : Nat) ∧ { data := #[] : ByteArray } = { data := #[] : ByteArray } ∧ XV.ptr ((0 : Nat) + (1 : Nat)) (0 : Nat) (0 : Nat) (0 : Nat) = XV.ptr (1 : Nat) (0 : Nat) (0 : Nat) (0 : Nat) ∧ (prV_r a) ∧ (((69 : Nat) = (69 : TypeId) ∧ true = true) ∧ bits BinOp.or IntKind.i64 (prV_c a) (prV_d a) = gp a (0 : Nat) ∧ bits BinOp.or IntKind.i64 (prV_e a) (prV_f a) = gp a (1 : Nat) ∧ bits BinOp.or IntKind.i64 (prV_h a) (prV_g a) = gp a (2 : Nat) ∧ bits BinOp.or IntKind.i64 (prV_j a) (prV_i a) = gp a (3 : Nat) ∧ bits BinOp.or IntKind.i64 (prV_m a) (prV_l a) = gp a (4 : Nat) ∧ bits BinOp.or IntKind.i64 (prV_q a) (prV_o a) = gp a (5 : Nat) ∧ bits BinOp.or IntKind.i64 (IntKind.i64.wrap ([a (0 : Nat), a (1 : Nat), a (2 : Nat), a (3 : Nat), a (4 : Nat), a (5 : Nat), a (6 : Nat), a (7 : Nat), a (8 : Nat), a (9 : Nat), a (10 : Nat), a (11 : Nat), a (12 : Nat), a (13 : Nat), a (14 : Nat), a (15 : Nat)].getD ((12 : Nat)) (0 : Int) * (2 : Int) ^ (8 : Nat))) (prV_k a) = gp a (6 : Nat) ∧ bits BinOp.or IntKind.i64 (IntKind.i64.wrap ([a (0 : Nat), a (1 : Nat), a (2 : Nat), a (3 : Nat), a (4 : Nat), a (5 : Nat), a (6 : Nat), a (7 : Nat), a (8 : Nat), a (9 : Nat), a (10 : Nat), a (11 : Nat), a (12 : Nat), a (13 : Nat), a (14 : Nat), a (15 : Nat)].getD ((14 : Nat)) (0 : Int) * (2 : Int) ^ (8 : Nat))) (prV_n a) = gp a (7 : Nat) ∧ True) ∧ True) ∧ ∀ (x : UX), True → (∃ (x : (prI a).σ), x.i.le (8 : Nat) ∧ true = true ∧ XV.ptr (0 : Nat) (0 : Nat) (0 : Nat) (0 : Nat) = XV.ptr (0 : Nat) (0 : Nat) (0 : Nat) (0 : Nat) ∧ { data := #[] : ByteArray } = { data := #[] : ByteArray } ∧ XV.ptr (1 : Nat) (0 : Nat) (0 : Nat) (0 : Nat) = XV.ptr (1 : Nat) (0 : Nat) (0 : Nat) (0 : Nat) ∧ (-1 : Int) = (best a x.i).fst ∧ (1 : Int) = (best a x.i).snd ∧ (0 : Int) = (↑x.i : Int) ∧ (prV_a a) ∧ (prV_b a) ∧ True) ∧ ∀ (x : IXAd), x.i.le (8 : Nat) → (decide ((↑x.i : Int) < (8 : Int)) = true → ∃ (p : { α := IXAd, J := prJ a : InvP }.α), (∃ (x_1 : ({ α := IXAd, J := prJ a : InvP }.J p).σ), (p.i + x_1.k ≤ (8 : Nat) ∧ ∀ (j : Nat), j < x_1.k → gp a (p.i + j) = (0 : Int)) ∧ true = true ∧ XV.ptr (0 : Nat) (0 : Nat) (0 : Nat) (0 : Nat) = XV.ptr (0 : Nat) (0 : Nat) (0 : Nat) (0 : Nat) ∧ { data := #[] : ByteArray } = { data := #[] : ByteArray } ∧ XV.ptr (1 : Nat) (0 : Nat) (0 : Nat) (0 : Nat) = XV.ptr (1 : Nat) (0 : Nat) (0 : Nat) (0 : Nat) ∧ (best a x.i).fst = (best a p.i).fst ∧ (best a x.i).snd = (best a p.i).snd ∧ (↑x.i : Int) = (↑p.i : Int) ∧ (↑x.i : Int) = (↑p.i : Int) ∧ (0 : Int) = (↑x_1.k : Int) ∧ (prV_a a) ∧ (prV_b a) ∧ True) ∧ ∀ (x_1 : KX), (p.i + x_1.k ≤ (8 : Nat) ∧ ∀ (j : Nat), j < x_1.k → gp a (p.i + j) = (0 : Int)) → in64 ((↑p.i : Int) + (↑x_1.k : Int)) ∧ (decide ((↑p.i : Int) + (↑x_1.k : Int) < (8 : Int)) = true → in64 ((↑p.i : Int) + (↑x_1.k : Int))) ∧ (decide ((↑p.i : Int) + (↑x_1.k : Int) < (8 : Int)) = true → (0 : Int) ≤ (↑p.i : Int) + (↑x_1.k : Int)) ∧ (decide ((↑p.i : Int) + (↑x_1.k : Int) < (8 : Int)) = true → (↑p.i : Int) + (↑x_1.k : Int) < (↑(8 : Nat) : Int)) ∧ (decide ((↑p.i : Int) + (↑x_1.k : Int) < (8 : Int)) = true → ((↑p.i : Int) + (↑x_1.k : Int)).toNat < [gp a (0 : Nat), gp a (1 : Nat), gp a (2 : Nat), gp a (3 : Nat), gp a (4 : Nat), gp a (5 : Nat), gp a (6 : Nat), gp a (7 : Nat)].length) ∧ ((decide ((↑p.i : Int) + (↑x_1.k : Int) < (8 : Int)) && [gp a (0 : Nat), gp a (1 : Nat), gp a (2 : Nat), gp a (3 : Nat), gp a (4 : Nat), gp a (5 : Nat), gp a (6 : Nat), gp a (7 : Nat)].getD ((↑p.i : Int) + (↑x_1.k : Int)).toNat (0 : Int) == (0 : Int)) = true → in64 ((↑x_1.k : Int) + (1 : Int)) ∧ ∃ (x' : ({ α := IXAd, J := prJ a : InvP }.J p).σ), (p.i + x'.k ≤ (8 : Nat) ∧ ∀ (j : Nat), j < x'.k → gp a (p.i + j) = (0 : Int)) ∧ (8 : Nat) - x'.k < (8 : Nat) - x_1.k ∧ true = true ∧ XV.ptr (0 : Nat) (0 : Nat) (0 : Nat) (0 : Nat) = XV.ptr (0 : Nat) (0 : Nat) (0 : Nat) (0 : Nat) ∧ { data := #[] : ByteArray } = { data := #[] : ByteArray } ∧ XV.ptr (1 : Nat) (0 : Nat) (0 : Nat) (0 : Nat) = XV.ptr (1 : Nat) (0 : Nat) (0 : Nat) (0 : Nat) ∧ (best a p.i).fst = (best a p.i).fst ∧ (best a p.i).snd = (best a p.i).snd ∧ (↑p.i : Int) = (↑p.i : Int) ∧ (↑p.i : Int) = (↑p.i : Int) ∧ (↑x_1.k : Int) + (1 : Int) = (↑x'.k : Int) ∧ (prV_a a) ∧ (prV_b a) ∧ True) ∧ ((decide ((↑p.i : Int) + (↑x_1.k : Int) < (8 : Int)) && [gp a (0 : Nat), gp a (1 : Nat), gp a (2 : Nat), gp a (3 : Nat), gp a (4 : Nat), gp a (5 : Nat), gp a (6 : Nat), gp a (7 : Nat)].getD ((↑p.i : Int) + (↑x_1.k : Int)).toNat (0 : Int) == (0 : Int)) = false → (decide ((↑x_1.k : Int) > (best a p.i).snd) = true → in64 ((↑p.i : Int) + (1 : Int)) ∧ ∃ (x' : (prI a).σ), x'.i.le (8 : Nat) ∧ (8 : Nat) - x'.i < (8 : Nat) - x.i ∧ true = true ∧ XV.ptr (0 : Nat) (0 : Nat) (0 : Nat) (0 : Nat) = XV.ptr (0 : Nat) (0 : Nat) (0 : Nat) (0 : Nat) ∧ { data := #[] : ByteArray } = { data := #[] : ByteArray } ∧ XV.ptr (1 : Nat) (0 : Nat) (0 : Nat) (0 : Nat) = XV.ptr (1 : Nat) (0 : Nat) (0 : Nat) (0 : Nat) ∧ (↑p.i : Int) = (best a x'.i).fst ∧ (↑x_1.k : Int) = (best a x'.i).snd ∧ (↑p.i : Int) + (1 : Int) = (↑x'.i : Int) ∧ (prV_a a) ∧ (prV_b a) ∧ True) ∧ (decide ((↑x_1.k : Int) > (best a p.i).snd) = false → in64 ((↑p.i : Int) + (1 : Int)) ∧ ∃ (x' : (prI a).σ), x'.i.le (8 : Nat) ∧ (8 : Nat) - x'.i < (8 : Nat) - x.i ∧ true = true ∧ XV.ptr (0 : Nat) (0 : Nat) (0 : Nat) (0 : Nat) = XV.ptr (0 : Nat) (0 : Nat) (0 : Nat) (0 : Nat) ∧ { data := #[] : ByteArray } = { data := #[] : ByteArray } ∧ XV.ptr (1 : Nat) (0 : Nat) (0 : Nat) (0 : Nat) = XV.ptr (1 : Nat) (0 : Nat) (0 : Nat) (0 : Nat) ∧ (best a p.i).fst = (best a x'.i).fst ∧ (best a p.i).snd = (best a x'.i).snd ∧ (↑p.i : Int) + (1 : Int) = (↑x'.i : Int) ∧ (prV_a a) ∧ (prV_b a) ∧ True))) ∧ (decide ((↑x.i : Int) < (8 : Int)) = false → (∃ (x_1 : (prK a).σ), (x_1.i ≤ (8 : Nat) ∧ ((↑x_1.i : Int) ≤ (best a (8 : Nat)).fst ∨ (best a (8 : Nat)).fst + (best a (8 : Nat)).snd ≤ (↑x_1.i : Int))) ∧ true = true ∧ XV.ptr (0 : Nat) (0 : Nat) (0 : Nat) (0 : Nat) = XV.ptr (0 : Nat) (0 : Nat) (0 : Nat) (0 : Nat) ∧ { data := #[] : ByteArray } = { data := #[] : ByteArray } ∧ XV.ptr (1 : Nat) (0 : Nat) (0 : Nat) (0 : Nat) = XV.ptr (1 : Nat) (0 : Nat) (0 : Nat) (0 : Nat) ∧ (best a x.i).fst = (best a (8 : Nat)).fst ∧ (best a x.i).snd = (best a (8 : Nat)).snd ∧ { data := #[] : ByteArray } = prT a (best a (8 : Nat)).fst (best a (8 : Nat)).snd x_1.i ∧ (0 : Int) = (↑x_1.i : Int) ∧ (prV_a a) ∧ (prV_b a) ∧ True) ∧ ∀ (x : IXAd), x.i ≤ (8 : Nat) ∧ ((↑x.i : Int) ≤ (best a (8 : Nat)).fst ∨ (best a (8 : Nat)).fst + (best a (8 : Nat)).snd ≤ (↑x.i : Int)) → (decide ((↑x.i : Int) < (8 : Int)) = true → (((↑x.i : Int) == (best a (8 : Nat)).fst) = true → (prT a (best a (8 : Nat)).fst (best a (8 : Nat)).snd x.i).size + (2 : Nat) ≤ (9223372036854775807 : Nat) ∧ in64 ((best a (8 : Nat)).snd - (1 : Int)) ∧ in64 ((↑x.i : Int) + ((best a (8 : Nat)).snd - (1 : Int))) ∧ in64 ((↑x.i : Int) + ((best a (8 : Nat)).snd - (1 : Int)) + (1 : Int)) ∧ ∃ (x' : (prK a).σ), (x'.i ≤ (8 : Nat) ∧ ((↑x'.i : Int) ≤ (best a (8 : Nat)).fst ∨ (best a (8 : Nat)).fst + (best a (8 : Nat)).snd ≤ (↑x'.i : Int))) ∧ (8 : Nat) - x'.i < (8 : Nat) - x.i ∧ true = true ∧ XV.ptr (0 : Nat) (0 : Nat) (0 : Nat) (0 : Nat) = XV.ptr (0 : Nat) (0 : Nat) (0 : Nat) (0 : Nat) ∧ { data := #[] : ByteArray } = { data := #[] : ByteArray } ∧ XV.ptr (1 : Nat) (0 : Nat) (0 : Nat) (0 : Nat) = XV.ptr (1 : Nat) (0 : Nat) (0 : Nat) (0 : Nat) ∧ (best a (8 : Nat)).fst = (best a (8 : Nat)).fst ∧ (best a (8 : Nat)).snd = (best a (8 : Nat)).snd ∧ prT a (best a (8 : Nat)).fst (best a (8 : Nat)).snd x.i ++ { data := #[(58 : UInt8), (58 : UInt8)] : ByteArray } = prT a (best a (8 : Nat)).fst (best a (8 : Nat)).snd x'.i ∧ (↑x.i : Int) + ((best a (8 : Nat)).snd - (1 : Int)) + (1 : Int) = (↑x'.i : Int) ∧ (prV_a a) ∧ (prV_b a) ∧ True) ∧ (((↑x.i : Int) == (best a (8 : Nat)).fst) = false → ((!decide (prT a (best a (8 : Nat)).fst (best a (8 : Nat)).snd x.i = { data := #[] : ByteArray })) = true → (prT a (best a (8 : Nat)).fst (best a (8 : Nat)).snd x.i).size ≤ (1000000000 : Nat)) ∧ ((!decide (prT a (best a (8 : Nat)).fst (best a (8 : Nat)).snd x.i = { data := #[] : ByteArray }) && !hasSufB (prT a (best a (8 : Nat)).fst (best a (8 : Nat)).snd x.i) { data := #[(58 : UInt8)] : ByteArray }) = true → (prT a (best a (8 : Nat)).fst (best a (8 : Nat)).snd x.i).size + (1 : Nat) ≤ (9223372036854775807 : Nat) ∧ (0 : Int) ≤ (↑x.i : Int) ∧ (↑x.i : Int) < (↑(8 : Nat) : Int) ∧ (↑x.i : Int).toNat < [gp a (0 : Nat), gp a (1 : Nat), gp a (2 : Nat), gp a (3 : Nat), gp a (4 : Nat), gp a (5 : Nat), gp a (6 : Nat), gp a (7 : Nat)].length ∧ (0 : Int) ≤ [gp a (0 : Nat), gp a (1 : Nat), gp a (2 : Nat), gp a (3 : Nat), gp a (4 : Nat), gp a (5 : Nat), gp a (6 : Nat), gp a (7 : Nat)].getD (↑x.i : Int).toNat (0 : Int) ∧ [gp a (0 : Nat), gp a (1 : Nat), gp a (2 : Nat), gp a (3 : Nat), gp a (4 : Nat), gp a (5 : Nat), gp a (6 : Nat), gp a (7 : Nat)].getD (↑x.i : Int).toNat (0 : Int) < (65536 : Int) ∧ (16 : Int) = (16 : Int) ∧ (prT a (best a (8 : Nat)).fst (best a (8 : Nat)).snd x.i ++ { data := #[(58 : UInt8)] : ByteArray }).size + (hexB (prV_v a x).toNat).size ≤ (9223372036854775807 : Nat) ∧ in64 ((↑x.i : Int) + (1 : Int)) ∧ ∃ (x' : (prK a).σ), (x'.i ≤ (8 : Nat) ∧ ((↑x'.i : Int) ≤ (best a (8 : Nat)).fst ∨ (best a (8 : Nat)).fst + (best a (8 : Nat)).snd ≤ (↑x'.i : Int))) ∧ (8 : Nat) - x'.i < (8 : Nat) - x.i ∧ true = true ∧ XV.ptr (0 : Nat) (0 : Nat) (0 : Nat) (0 : Nat) = XV.ptr (0 : Nat) (0 : Nat) (0 : Nat) (0 : Nat) ∧ { data := #[] : ByteArray } = { data := #[] : ByteArray } ∧ XV.ptr (1 : Nat) (0 : Nat) (0 : Nat) (0 : Nat) = XV.ptr (1 : Nat) (0 : Nat) (0 : Nat) (0 : Nat) ∧ (best a (8 : Nat)).fst = (best a (8 : Nat)).fst ∧ (best a (8 : Nat)).snd = (best a (8 : Nat)).snd ∧ prT a (best a (8 : Nat)).fst (best a (8 : Nat)).snd x.i ++ { data := #[(58 : UInt8)] : ByteArray } ++ hexB (prV_v a x).toNat = prT a (best a (8 : Nat)).fst (best a (8 : Nat)).snd x'.i ∧ (↑x.i : Int) + (1 : Int) = (↑x'.i : Int) ∧ (prV_a a) ∧ (prV_b a) ∧ True) ∧ ((!decide (prT a (best a (8 : Nat)).fst (best a (8 : Nat)).snd x.i = { data := #[] : ByteArray }) && !hasSufB (prT a (best a (8 : Nat)).fst (best a (8 : Nat)).snd x.i) { data := #[(58 : UInt8)] : ByteArray }) = false → (0 : Int) ≤ (↑x.i : Int) ∧ (↑x.i : Int) < (↑(8 : Nat) : Int) ∧ (↑x.i : Int).toNat < [gp a (0 : Nat), gp a (1 : Nat), gp a (2 : Nat), gp a (3 : Nat), gp a (4 : Nat), gp a (5 : Nat), gp a (6 : Nat), gp a (7 : Nat)].length ∧ (0 : Int) ≤ [gp a (0 : Nat), gp a (1 : Nat), gp a (2 : Nat), gp a (3 : Nat), gp a (4 : Nat), gp a (5 : Nat), gp a (6 : Nat), gp a (7 : Nat)].getD (↑x.i : Int).toNat (0 : Int) ∧ [gp a (0 : Nat), gp a (1 : Nat), gp a (2 : Nat), gp a (3 : Nat), gp a (4 : Nat), gp a (5 : Nat), gp a (6 : Nat), gp a (7 : Nat)].getD (↑x.i : Int).toNat (0 : Int) < (65536 : Int) ∧ (16 : Int) = (16 : Int) ∧ (prT a (best a (8 : Nat)).fst (best a (8 : Nat)).snd x.i).size + (hexB (prV_v a x).toNat).size ≤ (9223372036854775807 : Nat) ∧ in64 ((↑x.i : Int) + (1 : Int)) ∧ ∃ (x' : (prK a).σ), (x'.i ≤ (8 : Nat) ∧ ((↑x'.i : Int) ≤ (best a (8 : Nat)).fst ∨ (best a (8 : Nat)).fst + (best a (8 : Nat)).snd ≤ (↑x'.i : Int))) ∧ (8 : Nat) - x'.i < (8 : Nat) - x.i ∧ true = true ∧ XV.ptr (0 : Nat) (0 : Nat) (0 : Nat) (0 : Nat) = XV.ptr (0 : Nat) (0 : Nat) (0 : Nat) (0 : Nat) ∧ { data := #[] : ByteArray } = { data := #[] : ByteArray } ∧ XV.ptr (1 : Nat) (0 : Nat) (0 : Nat) (0 : Nat) = XV.ptr (1 : Nat) (0 : Nat) (0 : Nat) (0 : Nat) ∧ (best a (8 : Nat)).fst = (best a (8 : Nat)).fst ∧ (best a (8 : Nat)).snd = (best a (8 : Nat)).snd ∧ prT a (best a (8 : Nat)).fst (best a (8 : Nat)).snd x.i ++ hexB (prV_v a x).toNat = prT a (best a (8 : Nat)).fst (best a (8 : Nat)).snd x'.i ∧ (↑x.i : Int) + (1 : Int) = (↑x'.i : Int) ∧ (prV_a a) ∧ (prV_b a) ∧ True))) ∧ (decide ((↑x.i : Int) < (8 : Int)) = false → prT a (best a (8 : Nat)).fst (best a (8 : Nat)).snd x.i = prn a)))
theorem prV_eq (a : Nat → Int) : prV a = (funC cxp Tryz.f28 (mkSc (prE a) (bodyOf Tryz.f28)) [adr a] (XT (prn a))) := by kernel_rfl
theorem g16b (a : Nat → Int) (h : ∀ k, k < 16 → 0 ≤ a k ∧ a k ≤ 255) (k : Nat) : 0 ≤ [a 0, a 1, a 2, a 3, a 4, a 5, a 6, a 7, a 8, a 9, a 10, a 11, a 12, a 13, a 14, a 15].getD k 0 ∧ [a 0, a 1, a 2, a 3, a 4, a 5, a 6, a 7, a 8, a 9, a 10, a 11, a 12, a 13, a 14, a 15].getD k 0 ≤ 255 := by
 by_cases hk : k < 16
 ·rw [get16 a k hk]; exact h k hk
 ·rw [List.getD_eq_getElem?_getD, List.getElem?_eq_none (by show 16 ≤ k; omega)]; exact ⟨Int.le_refl 0, by decide⟩
theorem gp_bits (x y : Int) (hx : 0 ≤ x ∧ x ≤ 255) (hy : 0 ≤ y ∧ y ≤ 255) : bits .or .i64 (IntKind.i64.wrap (x * 2 ^ 8)) y = x * 256 + y := by
 have hw : ∀ n : Int, 0 ≤ n → n < 2 ^ 63 → IntKind.i64.wrap n = n := fun n h0 h1 => by
  have e : n % 2 ^ 64 = n := Int.emod_eq_of_lt h0 (by omega)
  simp only [IntKind.wrap, IntKind.bits, IntKind.signed, e]
  rw [if_neg]
  simp
  omega
 rw [hw _ (by omega) (by omega)]
 rw [bits_join .i64 63 (by decide) hw 8 _ _ (by omega) (by omega) (by omega) (by omega) (by omega) (by omega)]
 omega
theorem in64_b {x : Int} (h : 0 ≤ x ∧ x ≤ 255) : in64 x := by unfold in64; omega
theorem itoaB_byte : ∀ x : Fin 256, (itoaB (x.val : Int)).size ≤ 3 := by decide +kernel
theorem prF_size (a : Nat → Int) (ha : ∀ k, k < 16 → 0 ≤ a k ∧ a k ≤ 255) (j : Nat) (hj : j < 4) : (prF a j).size ≤ 1000000 := by
 have h := ha (12 + j) (by omega)
 have := itoaB_byte ⟨(a (12 + j)).toNat, by omega⟩
 rw [show (((⟨(a (12 + j)).toNat, by omega⟩ : Fin 256).val : Nat) : Int) = a (12 + j) by show (((a (12 + j)).toNat : Nat) : Int) = _; omega] at this
 exact Nat.le_trans this (by omega)
theorem gp_b (a : Nat → Int) (ha : ∀ k, k < 16 → 0 ≤ a k ∧ a k ≤ 255) (j : Nat) (hj : j < 8) : 0 ≤ gp a j ∧ gp a j < 65536 := by
 have h1 := ha (2 * j) (by omega)
 have h2 := ha (2 * j + 1) (by omega)
 unfold gp
 omega
theorem get8 (g : Nat → Int) : ∀ j, j < 8 → [g 0, g 1, g 2, g 3, g 4, g 5, g 6, g 7].getD j 0 = g j
 | 0, _ => rfl | 1, _ => rfl | 2, _ => rfl | 3, _ => rfl | 4, _ => rfl | 5, _ => rfl | 6, _ => rfl | 7, _ => rfl
 | n + 8, h => absurd h (by omega)
theorem zrun_eq (a : Nat → Int) : ∀ (k f i : Nat), (∀ j, j < k → gp a (i + j) = 0) → i + k ≤ 8 → (i + k = 8 ∨ gp a (i + k) ≠ 0) → k < f → zrun a f i = k
 | _, 0, _, _, _, _, h => absurd h (by omega)
 | 0, f + 1, i, _, h8, he, _ => by
  rw [zrun, if_neg]
  rintro ⟨h1, h2⟩
  rcases he with he | he
  ·omega
  ·exact he h2
 | k + 1, f + 1, i, hz, h8, he, hf => by
  rw [zrun, if_pos ⟨by omega, hz 0 (by omega)⟩, zrun_eq a k f (i + 1) (fun j hj => by rw [show i + 1 + j = i + (j + 1) by omega]; exact hz (j + 1) (by omega)) (by omega) (by rw [show i + 1 + k = i + (k + 1) by omega]; exact he) (by omega)]
theorem zrun_z (a : Nat → Int) : ∀ (f i : Nat), (∀ j, j < zrun a f i → gp a (i + j) = 0) ∧ (zrun a f i = 0 ∨ i + zrun a f i ≤ 8)
 | 0, i => ⟨fun j hj => absurd hj (by rw [zrun]; omega), .inl rfl⟩
 | f + 1, i => by
  by_cases h : i < 8 ∧ gp a i = 0
  ·have ih := zrun_z a f (i + 1)
   rw [zrun, if_pos h]
   refine ⟨fun j hj => ?_, .inr ?_⟩
   ·cases j with
    | zero => exact h.2
    | succ j => rw [show i + (j + 1) = i + 1 + j by omega]; exact ih.1 j (by omega)
   ·rcases ih.2 with ih | ih <;> omega
  ·rw [zrun, if_neg h]
   exact ⟨fun j hj => absurd hj (by omega), .inl rfl⟩
theorem best_i (a : Nat → Int) : ∀ n, ((best a n).1 = -1 ∧ (best a n).2 = 1) ∨ ((0 ≤ (best a n).1 ∧ (best a n).1 < n) ∧ (best a n).1 + (best a n).2 ≤ 8 ∧ 2 ≤ (best a n).2)
 | 0 => .inl ⟨rfl, rfl⟩
 | n + 1 => by
  have ih := best_i a n
  rw [best]
  split
  ·rename_i h
   have hz := (zrun_z a 9 n).2
   right
   refine ⟨⟨by show (0 : Int) ≤ n; omega, by show (n : Int) < ((n + 1 : Nat) : Int); omega⟩, ?_, ?_⟩
   ·show (n : Int) + (zrun a 9 n : Int) ≤ 8
    rcases hz with hz | hz <;> omega
   ·show (2 : Int) ≤ (zrun a 9 n : Int)
    rcases ih with ih | ih <;> omega
  ·rcases ih with ih | ih
   ·exact .inl ih
   ·exact .inr ⟨⟨ih.1.1, by omega⟩, ih.2⟩
theorem hexB_size (n : Nat) : (hexB n).size ≤ 4 := by
 show (hexL n).length ≤ 4
 unfold hexL
 split
 ·show 1 ≤ 4; omega
 ·split
  ·show 2 ≤ 4; omega
  ·split
   ·show 3 ≤ 4; omega
   ·show 4 ≤ 4; omega
theorem prT_size (a : Nat → Int) (b r : Int) : ∀ k, (prT a b r k).size ≤ 8 * k
 | 0 => Nat.le_refl _
 | k + 1 => by
  have ih := prT_size a b r k
  have hh := hexB_size (gp a k).toNat
  rw [prT]
  split
  ·split
   ·rw [ByteArray.size_append]
    show _ + 2 ≤ _
    omega
   ·omega
  ·rw [ByteArray.size_append]
   split
   ·rw [ByteArray.size_append]
    show _ + 1 + _ ≤ _
    omega
   ·omega
theorem prT_in (a : Nat → Int) (b r : Nat) : ∀ n, n < r → prT a b r (b + n + 1) = prT a b r b ++ ⟨#[58, 58]⟩
 | 0, h => by rw [Nat.add_zero, prT, if_pos ⟨by omega, by omega⟩, if_pos rfl]
 | n + 1, h => by
  rw [prT, if_pos ⟨by omega, by omega⟩, if_neg (by omega)]
  exact prT_in a b r n (by omega)
theorem prT_out (a : Nat → Int) (b r : Int) (k : Nat) (h : (k : Int) < b ∨ b + r ≤ k) : prT a b r (k + 1) = (if prT a b r k ≠ ⟨#[]⟩ ∧ hasSufB (prT a b r k) ⟨#[58]⟩ = false then prT a b r k ++ ⟨#[58]⟩ else prT a b r k) ++ hexB (gp a k).toNat := by
 rw [prT, if_neg (by omega)]
theorem pr_v (a : Nat → Int) (ha : ∀ k, k < 16 → 0 ≤ a k ∧ a k ≤ 255) : prV a := by
 have hb := g16b a ha
 unfold prV prV_y prV_x prV_w prV_v prV_u prV_t prV_s prV_r prV_q prV_p prV_o prV_n prV_m prV_l prV_k prV_j prV_i prV_h prV_g prV_f prV_e prV_d prV_c prV_b prV_a
 refine ⟨fun h => ⟨?_, ?_⟩, fun h => ⟨?_, ?_⟩⟩
 ·have h4 : is4 a = true := h
  and_intros
  any_goals first | with_reducible rfl | trivial | omega | exact (hb _).1 | exact Int.le_trans (hb _).2 (by decide) | exact Int.le_trans (by decide) (hb _).1 | (simp only [List.length_cons, List.length_nil]; omega)
  refine ⟨⟨()⟩, h4, rfl, rfl, rfl, rfl, ?_, ?_, trivial⟩
  ·and_intros <;> first | with_reducible rfl | trivial
  ·refine ⟨by and_intros <;> rfl, rfl, fun j hj => ?_⟩
   match j, hj with
   | 0, _ => rfl
   | 1, _ => rfl
   | 2, _ => rfl
   | 3, _ => rfl
 ·rintro ⟨_⟩ h4
  have h4 : is4 a = true := h4
  refine ⟨rfl, fun _ _ => rfl, by omega, fun i hi => prF_size a ha i hi, by omega, ?_⟩
  unfold prn
  rw [if_pos h4]
  rfl
 ·and_intros
  any_goals first | with_reducible rfl | trivial | omega | exact (hb _).1 | exact Int.le_trans (hb _).2 (by decide) | exact Int.le_trans (by decide) (hb _).1 | (simp only [List.length_cons, List.length_nil]; omega)
  refine ⟨⟨()⟩, trivial, rfl, rfl, rfl, rfl, ?_, ⟨⟨rfl, rfl⟩, ?_⟩, trivial⟩
  ·and_intros <;> first | with_reducible rfl | trivial
  ·and_intros <;> first | exact gp_bits _ _ (hb _) (hb _) | trivial
 ·rintro ⟨_⟩ _
  refine ⟨⟨⟨0⟩, Nat.zero_le _, rfl, rfl, rfl, rfl, rfl, rfl, rfl, ?_, ?_, trivial⟩, ?_⟩
  ·and_intros <;> first | with_reducible rfl | trivial
  ·and_intros <;> first | with_reducible rfl | trivial
  rintro ⟨i⟩ hi
  have hi : i ≤ 8 := hi
  refine ⟨fun h1 => ?_, fun h1 => ?_⟩
  ·have h1 : (i : Int) < 8 := of_decide_eq_true h1
   have hil : i < 8 := by omega
   refine ⟨⟨i⟩, ⟨⟨0⟩, ⟨hi, fun j hj => absurd hj (by show ¬ j < 0; omega)⟩, rfl, rfl, rfl, rfl, rfl, rfl, rfl, rfl, rfl, ?_, ?_, trivial⟩, ?_⟩
   ·and_intros <;> first | with_reducible rfl | trivial
   ·and_intros <;> first | with_reducible rfl | trivial
   rintro ⟨k⟩ ⟨hk, hz⟩
   have hk : i + k ≤ 8 := hk
   have hz : ∀ j, j < k → gp a (i + j) = 0 := hz
   have e : ((i : Int) + (k : Int)).toNat = i + k := by omega
   refine ⟨by unfold in64; dsimp only; omega, fun _ => by unfold in64; dsimp only; omega, fun _ => by dsimp only; omega, fun h2 => of_decide_eq_true h2, fun h2 => ?_, fun h2 => ?_, fun h2 => ?_⟩
   ·have h2 : (i : Int) + k < 8 := of_decide_eq_true h2
    show ((i : Int) + (k : Int)).toNat < 8
    omega
   ·dsimp only at h2
    rw [Bool.and_eq_true] at h2
    obtain ⟨h2, h3⟩ := h2
    have h2 : (i : Int) + k < 8 := of_decide_eq_true h2
    rw [e, get8 (gp a) _ (by omega), beq_iff_eq] at h3
    refine ⟨by unfold in64; dsimp only; omega, ⟨k + 1⟩, ⟨by show i + (k + 1) ≤ 8; omega, fun j hj => ?_⟩, by show 8 - (k + 1) < 8 - k; omega, rfl, rfl, rfl, rfl, rfl, rfl, rfl, rfl, rfl, ?_, ?_, trivial⟩
    ·have hj : j < k + 1 := hj
     by_cases hjk : j = k
     ·rw [hjk]; exact h3
     ·exact hz j (by omega)
    ·and_intros <;> first | with_reducible rfl | trivial
    ·and_intros <;> first | with_reducible rfl | trivial
   ·dsimp only at h2
    have hr : zrun a 9 i = k := by
     refine zrun_eq a k 9 i hz hk ?_ (by omega)
     by_cases h8 : i + k = 8
     ·exact .inl h8
     ·right
      intro h3
      rw [e, get8 (gp a) _ (by omega), h3] at h2
      rw [decide_eq_true (by omega : (i : Int) + k < 8)] at h2
      exact Bool.noConfusion h2
    have hbs : best a (i + 1) = if (best a i).2 < (k : Int) then ((i : Int), (k : Int)) else best a i := by rw [best, hr]
    refine ⟨fun h3 => ?_, fun h3 => ?_⟩
    ·have h3 : (best a i).2 < (k : Int) := of_decide_eq_true h3
     rw [if_pos h3] at hbs
     refine ⟨by unfold in64; dsimp only; omega, ⟨i + 1⟩, (by show i + 1 ≤ 8; omega), by show 8 - (i + 1) < 8 - i; omega, rfl, rfl, rfl, rfl, by rw [hbs], by rw [hbs], rfl, ?_, ?_, trivial⟩
     ·and_intros <;> first | with_reducible rfl | trivial
     ·and_intros <;> first | with_reducible rfl | trivial
    ·have h3 : ¬ (best a i).2 < (k : Int) := of_decide_eq_false h3
     rw [if_neg h3] at hbs
     refine ⟨by unfold in64; dsimp only; omega, ⟨i + 1⟩, (by show i + 1 ≤ 8; omega), by show 8 - (i + 1) < 8 - i; omega, rfl, rfl, rfl, rfl, by rw [hbs], by rw [hbs], rfl, ?_, ?_, trivial⟩
     ·and_intros <;> first | with_reducible rfl | trivial
     ·and_intros <;> first | with_reducible rfl | trivial
  ·have h1 : ¬ (i : Int) < 8 := of_decide_eq_false h1
   obtain rfl : i = 8 := by omega
   have hbi := best_i a 8
   refine ⟨⟨⟨0⟩, ⟨Nat.zero_le _, ?_⟩, rfl, rfl, rfl, rfl, rfl, rfl, rfl, rfl, ?_, ?_, trivial⟩, ?_⟩
   ·show ((0 : Nat) : Int) ≤ _ ∨ _ ≤ ((0 : Nat) : Int)
    omega
   ·and_intros <;> first | with_reducible rfl | trivial
   ·and_intros <;> first | with_reducible rfl | trivial
   rintro ⟨i⟩ ⟨hi, hib⟩
   have hi : i ≤ 8 := hi
   have hib : (i : Int) ≤ (best a 8).1 ∨ (best a 8).1 + (best a 8).2 ≤ (i : Int) := hib
   have hps := prT_size a (best a 8).1 (best a 8).2 i
   refine ⟨fun h2 => ?_, fun h2 => ?_⟩
   ·have h2 : (i : Int) < 8 := of_decide_eq_true h2
    refine ⟨fun h3 => ?_, fun h3 => ?_⟩
    ·have h3 : (i : Int) = (best a 8).1 := beq_iff_eq.mp h3
     obtain ⟨r, hr⟩ : ∃ r : Nat, (best a 8).2 = (r : Int) + 1 := ⟨((best a 8).2 - 1).toNat, by omega⟩
     refine ⟨by dsimp only; omega, by unfold in64; omega, by unfold in64; dsimp only; omega, by unfold in64; dsimp only; omega, ⟨i + r + 1⟩, ⟨by show i + r + 1 ≤ 8; omega, .inr (by show _ ≤ ((i + r + 1 : Nat) : Int); omega)⟩, by show 8 - (i + r + 1) < 8 - i; omega, rfl, rfl, rfl, rfl, rfl, rfl, ?_, by show (i : Int) + ((best a 8).2 - 1) + 1 = ((i + r + 1 : Nat) : Int); omega, ?_, ?_, trivial⟩
     ·rw [← h3, hr]
      exact (prT_in a i (r + 1) r (by omega)).symm
     ·and_intros <;> first | with_reducible rfl | trivial
     ·and_intros <;> first | with_reducible rfl | trivial
    ·have h3 : ¬ (i : Int) = (best a 8).1 := fun e => by rw [beq_iff_eq.mpr e] at h3; cases h3
     have e : (i : Int).toNat = i := by omega
     have hg := get8 (gp a) i (by omega)
     have hgb := gp_b a ha i (by omega)
     have hh := hexB_size (gp a i).toNat
     have hpo := prT_out a (best a 8).1 (best a 8).2 i (by omega)
     dsimp only
     rw [e, hg]
     refine ⟨fun _ => by omega, fun h4 => ?_, fun h4 => ?_⟩
     ·rw [Bool.and_eq_true, Bool.not_eq_true', Bool.not_eq_true', decide_eq_false_iff_not] at h4
      rw [if_pos h4] at hpo
      refine ⟨by omega, by omega, by omega, by show i < 8; omega, hgb.1, hgb.2, rfl, by rw [ByteArray.size_append]; show _ + 1 + _ ≤ _; omega, by unfold in64; omega, ⟨i + 1⟩, ⟨by show i + 1 ≤ 8; omega, by show ((i + 1 : Nat) : Int) ≤ _ ∨ _ ≤ ((i + 1 : Nat) : Int); omega⟩, by show 8 - (i + 1) < 8 - i; omega, rfl, rfl, rfl, rfl, rfl, rfl, hpo.symm, rfl, ?_, ?_, trivial⟩
      ·and_intros <;> first | with_reducible rfl | trivial
      ·and_intros <;> first | with_reducible rfl | trivial
     ·have h4 : ¬ (prT a (best a 8).1 (best a 8).2 i ≠ ⟨#[]⟩ ∧ hasSufB (prT a (best a 8).1 (best a 8).2 i) ⟨#[58]⟩ = false) := fun ⟨h5, h6⟩ => by
       rw [decide_eq_false h5, h6] at h4
       cases h4
      rw [if_neg h4] at hpo
      refine ⟨by omega, by omega, by show i < 8; omega, hgb.1, hgb.2, rfl, by omega, by unfold in64; omega, ⟨i + 1⟩, ⟨by show i + 1 ≤ 8; omega, by show ((i + 1 : Nat) : Int) ≤ _ ∨ _ ≤ ((i + 1 : Nat) : Int); omega⟩, by show 8 - (i + 1) < 8 - i; omega, rfl, rfl, rfl, rfl, rfl, rfl, hpo.symm, rfl, ?_, ?_, trivial⟩
      ·and_intros <;> first | with_reducible rfl | trivial
      ·and_intros <;> first | with_reducible rfl | trivial
   ·have h2 : ¬ (i : Int) < 8 := of_decide_eq_false h2
    obtain rfl : i = 8 := by omega
    show prT a (best a 8).1 (best a 8).2 8 = prn a
    have h4 : ¬ is4 a = true := fun e => by
     have h : is4 a = false := h
     rw [e] at h
     cases h
    unfold prn
    rw [if_neg h4]
end Go.Proofs.YtkjcoehblekpdaaGreatDoorAv
namespace Go.Proofs.YtkjcoehblekpdaaGreatDoorAv
open Go Go.RowKit
def b16 (g : Nat → Int) : Prop := ∀ k, k < 16 → 0 ≤ g k ∧ g k ≤ 255
def prnC : CT := C1 dAL (fun g => [b16 g]) fun g => XT (prn g)
theorem pr_ok : CTok Tryz.prog 28 prnC := C1_ok cxp_ok Tryz.func28 rfl (by decide) dAL_eq.ok (by kernel_rfl) (fun _ => rfl) fun g hc => exv (prV_eq g) (pr_v g (hc (b16 g) (.head _)))
def foC : CT := C1 dStr (fun s => [s.size ≤ 1000000]) fun s => .tup [adr (four s).1, XB (four s).2]
def siC : CT := C1 dStr (fun s => [s.size ≤ 1000000]) fun s => .tup [adr (six s).1, XB (six s).2]
def cxq : Cx := { cx0 with C := [(33, foC), (34, siC), (28, prnC)] }
theorem cxq_ok : cxq.ok Tryz.prog := ((cx0_ok.addC pr_ok).addC si_ok).addC fo_ok
def parB (s : ByteArray) : Nat → Int := if (four s).2 = true then (four s).1 else (six s).1
def parOk (s : ByteArray) : Bool := ((four s).2 || (six s).2) && decide (prn (parB s) = s)
def parA (s : ByteArray) : Nat → Int := if parOk s = true then parB s else zeroA
def parN (s : ByteArray) : Int := if parOk s = true then 0 else 5
def paV_a (s : ByteArray) :=
 ((0 : Int) = parA s 0 ∧ (0 : Int) = parA s 1 ∧ (0 : Int) = parA s 2 ∧ (0 : Int) = parA s 3 ∧ (0 : Int) = parA s 4 ∧ (0 : Int) = parA s 5 ∧ (0 : Int) = parA s 6 ∧ (0 : Int) = parA s 7 ∧ (0 : Int) = parA s 8 ∧ (0 : Int) = parA s 9 ∧ (0 : Int) = parA s 10 ∧ (0 : Int) = parA s 11 ∧ (0 : Int) = parA s 12 ∧ (0 : Int) = parA s 13 ∧ (0 : Int) = parA s 14 ∧ (0 : Int) = parA s 15 ∧ True)
def paV_b (s : ByteArray) :=
 (!(four s).snd || !decide ((prn fun (i : Nat) => [(four s).fst 0, (four s).fst 1, (four s).fst 2, (four s).fst 3, (four s).fst 4, (four s).fst 5, (four s).fst 6, (four s).fst 7, (four s).fst 8, (four s).fst 9, (four s).fst 10, (four s).fst 11, (four s).fst 12, (four s).fst 13, (four s).fst 14, (four s).fst 15].getD i 0) = s))
def paV_c (s : ByteArray) :=
 (!(six s).snd || !decide ((prn fun (i : Nat) => [(six s).fst 0, (six s).fst 1, (six s).fst 2, (six s).fst 3, (six s).fst 4, (six s).fst 5, (six s).fst 6, (six s).fst 7, (six s).fst 8, (six s).fst 9, (six s).fst 10, (six s).fst 11, (six s).fst 12, (six s).fst 13, (six s).fst 14, (six s).fst 15].getD i 0) = s))
def paV (s : ByteArray) : Prop :=
 s.size ≤ (1000000 : Nat) ∧ ((!(four s).snd) = true → s.size ≤ (1000000 : Nat) ∧ ((!!(six s).snd) = true → b16 fun (i : Nat) => [(six s).fst 0, (six s).fst 1, (six s).fst 2, (six s).fst 3, (six s).fst 4, (six s).fst 5, (six s).fst 6, (six s).fst 7, (six s).fst 8, (six s).fst 9, (six s).fst 10, (six s).fst 11, (six s).fst 12, (six s).fst 13, (six s).fst 14, (six s).fst 15].getD i 0) ∧ ((paV_c s) = true → (paV_a s) ∧ (5 : Int) = parN s ∧ True) ∧ ((paV_c s) = false → ((six s).fst 0 = parA s 0 ∧ (six s).fst 1 = parA s 1 ∧ (six s).fst 2 = parA s 2 ∧ (six s).fst 3 = parA s 3 ∧ (six s).fst 4 = parA s 4 ∧ (six s).fst 5 = parA s 5 ∧ (six s).fst 6 = parA s 6 ∧ (six s).fst 7 = parA s 7 ∧ (six s).fst 8 = parA s 8 ∧ (six s).fst 9 = parA s 9 ∧ (six s).fst 10 = parA s 10 ∧ (six s).fst 11 = parA s 11 ∧ (six s).fst 12 = parA s 12 ∧ (six s).fst 13 = parA s 13 ∧ (six s).fst 14 = parA s 14 ∧ (six s).fst 15 = parA s 15 ∧ True) ∧ (0 : Int) = parN s ∧ True)) ∧ ((!(four s).snd) = false → ((!!(four s).snd) = true → b16 fun (i : Nat) => [(four s).fst 0, (four s).fst 1, (four s).fst 2, (four s).fst 3, (four s).fst 4, (four s).fst 5, (four s).fst 6, (four s).fst 7, (four s).fst 8, (four s).fst 9, (four s).fst 10, (four s).fst 11, (four s).fst 12, (four s).fst 13, (four s).fst 14, (four s).fst 15].getD i 0) ∧ ((paV_b s) = true → (paV_a s) ∧ (5 : Int) = parN s ∧ True) ∧ ((paV_b s) = false → ((four s).fst 0 = parA s 0 ∧ (four s).fst 1 = parA s 1 ∧ (four s).fst 2 = parA s 2 ∧ (four s).fst 3 = parA s 3 ∧ (four s).fst 4 = parA s 4 ∧ (four s).fst 5 = parA s 5 ∧ (four s).fst 6 = parA s 6 ∧ (four s).fst 7 = parA s 7 ∧ (four s).fst 8 = parA s 8 ∧ (four s).fst 9 = parA s 9 ∧ (four s).fst 10 = parA s 10 ∧ (four s).fst 11 = parA s 11 ∧ (four s).fst 12 = parA s 12 ∧ (four s).fst 13 = parA s 13 ∧ (four s).fst 14 = parA s 14 ∧ (four s).fst 15 = parA s 15 ∧ True) ∧ (0 : Int) = parN s ∧ True))
theorem paV_eq (s : ByteArray) : paV s = (funC cxq Tryz.f23 .nil [XT s] (.tup [adr (parA s), XI (parN s)])) := by kernel_rfl
theorem wrap8 (n : Int) : 0 ≤ IntKind.u8.wrap n ∧ IntKind.u8.wrap n ≤ 255 := by
 have e : IntKind.u8.wrap n = n % 256 := by simp [IntKind.wrap, IntKind.bits, IntKind.signed]
 rw [e]
 omega
theorem zero_b : b16 zeroA := fun k _ => ⟨Int.le_refl 0, by show (0 : Int) ≤ 255; omega⟩
theorem fourF_b (l : List ByteArray) (i k : Nat) : 0 ≤ fourF l i k ∧ fourF l i k ≤ 255 := by
 unfold fourF
 split
 ·exact wrap8 _
 ·omega
theorem v4_b (a b c d : Int) (ha : 0 ≤ a ∧ a ≤ 255) (hb : 0 ≤ b ∧ b ≤ 255) (hc : 0 ≤ c ∧ c ≤ 255) (hd : 0 ≤ d ∧ d ≤ 255) : b16 (v4 a b c d) := fun k hk => by
 have h0 : (0 : Int) ≤ 0 ∧ (0 : Int) ≤ 255 := by omega
 have h1 : (0 : Int) ≤ 255 ∧ (255 : Int) ≤ 255 := by omega
 rcases k with _ | _ | _ | _ | _ | _ | _ | _ | _ | _ | _ | _ | _ | _ | _ | _ | k
 case zero => exact h0
 case succ.succ.succ.succ.succ.succ.succ.succ.succ.succ.succ.succ.succ.succ.succ.succ => exact absurd hk (by omega)
 all_goals first | exact h0 | exact h1 | exact ha | exact hb | exact hc | exact hd
theorem four_b (s : ByteArray) : b16 (four s).1 := by
 unfold four
 split
 ·exact v4_b _ _ _ _ (fourF_b _ _ _) (fourF_b _ _ _) (fourF_b _ _ _) (fourF_b _ _ _)
 ·exact zero_b
theorem sixA_b (p : LR) : ∀ i k, 0 ≤ sixA p i k ∧ sixA p i k ≤ 255
 | 0, k => ⟨Int.le_refl 0, by show (0 : Int) ≤ 255; omega⟩
 | i + 1, k => by
  rw [sixA]
  dsimp only
  split
  ·exact wrap8 _
  ·split
   ·exact wrap8 _
   ·exact sixA_b p i k
theorem six_b (s : ByteArray) : b16 (six s).1 := by
 unfold six
 split
 ·exact fun k _ => sixA_b _ _ k
 ·exact zero_b
theorem parB_b (s : ByteArray) : b16 (parB s) := by
 unfold parB
 split
 ·exact four_b s
 ·exact six_b s
theorem parA_b (s : ByteArray) : b16 (parA s) := by
 unfold parA
 split
 ·exact parB_b s
 ·exact zero_b
theorem gp_ext {a b : Nat → Int} (h : ∀ k, k < 16 → a k = b k) (j : Nat) (hj : j < 8) : gp a j = gp b j := by
 unfold gp
 rw [h _ (by omega), h _ (by omega)]
theorem zrun_ext {a b : Nat → Int} (h : ∀ k, k < 16 → a k = b k) : ∀ f i, zrun a f i = zrun b f i
 | 0, i => rfl
 | f + 1, i => by
  rw [zrun, zrun, zrun_ext h f (i + 1)]
  by_cases hi : i < 8
  ·rw [gp_ext h i hi]
  ·rw [if_neg (fun e => hi e.1), if_neg (fun e => hi e.1)]
theorem best_ext {a b : Nat → Int} (h : ∀ k, k < 16 → a k = b k) : ∀ n, best a n = best b n
 | 0 => rfl
 | n + 1 => by rw [best, best, best_ext h n, zrun_ext h]
theorem prT_ext {a b : Nat → Int} (h : ∀ k, k < 16 → a k = b k) (c r : Int) : ∀ n, n ≤ 8 → prT a c r n = prT b c r n
 | 0, _ => rfl
 | n + 1, hn => by rw [prT, prT, prT_ext h c r n (by omega), gp_ext h n (by omega)]
theorem is4_ext {a b : Nat → Int} (h : ∀ k, k < 16 → a k = b k) : is4 a = is4 b := by
 unfold is4
 rw [h 0 (by omega), h 1 (by omega), h 2 (by omega), h 3 (by omega), h 4 (by omega), h 5 (by omega), h 6 (by omega), h 7 (by omega), h 8 (by omega), h 9 (by omega), h 10 (by omega), h 11 (by omega)]
theorem prn_ext {a b : Nat → Int} (h : ∀ k, k < 16 → a k = b k) : prn a = prn b := by
 unfold prn
 rw [is4_ext h, best_ext h, prT_ext h _ _ 8 (Nat.le_refl _)]
 have e : (List.range 4).map (prF a) = (List.range 4).map (prF b) := by
  apply List.map_congr_left
  intro i hi
  have := List.mem_range.1 hi
  unfold prF
  rw [h _ (by omega)]
 rw [e]
theorem prn_l (g : Nat → Int) : (prn fun i => [g 0, g 1, g 2, g 3, g 4, g 5, g 6, g 7, g 8, g 9, g 10, g 11, g 12, g 13, g 14, g 15].getD i 0) = prn g := prn_ext fun k hk => get16 g k hk
theorem b16_l {g : Nat → Int} (h : b16 g) : b16 fun i => [g 0, g 1, g 2, g 3, g 4, g 5, g 6, g 7, g 8, g 9, g 10, g 11, g 12, g 13, g 14, g 15].getD i 0 := fun k hk => by
 dsimp only
 rw [get16 g k hk]
 exact h k hk
theorem pa_v (s : ByteArray) (hs : s.size ≤ 1000000) : paV s := by
 unfold paV paV_c paV_b paV_a
 rw [prn_l (six s).1, prn_l (four s).1]
 have key : ∀ g : Nat → Int, parB s = g → ∀ ok : Bool, ((four s).2 || (six s).2) = ok →
   ((!ok || !decide (prn g = s)) = true → parA s = zeroA ∧ parN s = 5) ∧ ((!ok || !decide (prn g = s)) = false → parA s = g ∧ parN s = 0) := fun g hg ok hok => by
  have e : (!ok || !decide (prn g = s)) = !parOk s := by
   unfold parOk
   rw [hg, hok]
   cases ok <;> cases decide (prn g = s) <;> rfl
  rw [e]
  unfold parA parN
  cases parOk s
  ·exact ⟨fun _ => ⟨rfl, rfl⟩, fun h => Bool.noConfusion h⟩
  ·exact ⟨fun h => Bool.noConfusion h, fun _ => ⟨hg, rfl⟩⟩
 refine ⟨hs, fun h => ⟨hs, fun _ => b16_l (six_b s), fun h2 => ?_, fun h2 => ?_⟩, fun h => ⟨fun _ => b16_l (four_b s), fun h2 => ?_, fun h2 => ?_⟩⟩
 ·have h : (four s).2 = false := by cases e : (four s).2 with | false => rfl | true => rw [e] at h; cases h
  obtain ⟨e1, e2⟩ := (key (six s).1 (if_neg (by rw [h]; decide)) (six s).2 (by rw [h]; rfl)).1 h2
  rw [e1, e2]
  and_intros <;> first | rfl | trivial
 ·have h : (four s).2 = false := by cases e : (four s).2 with | false => rfl | true => rw [e] at h; cases h
  obtain ⟨e1, e2⟩ := (key (six s).1 (if_neg (by rw [h]; decide)) (six s).2 (by rw [h]; rfl)).2 h2
  rw [e1, e2]
  and_intros <;> first | rfl | trivial
 ·have h : (four s).2 = true := by cases e : (four s).2 with | true => rfl | false => rw [e] at h; cases h
  obtain ⟨e1, e2⟩ := (key (four s).1 (if_pos h) (four s).2 (by rw [h]; rfl)).1 h2
  rw [e1, e2]
  and_intros <;> first | rfl | trivial
 ·have h : (four s).2 = true := by cases e : (four s).2 with | true => rfl | false => rw [e] at h; cases h
  obtain ⟨e1, e2⟩ := (key (four s).1 (if_pos h) (four s).2 (by rw [h]; rfl)).2 h2
  rw [e1, e2]
  and_intros <;> first | rfl | trivial
def parC : CT := C1 dStr (fun s => [s.size ≤ 1000000]) fun s => .tup [adr (parA s), XI (parN s)]
theorem pa_ok : CTok Tryz.prog 23 parC := C1_ok cxq_ok Tryz.func23 rfl (by decide) dStr_eq.ok (by kernel_rfl) (fun _ => rfl) fun s hc => exv (paV_eq s) (pa_v s (hc _ (by simp)))
end Go.Proofs.YtkjcoehblekpdaaGreatDoorAv
namespace Go.Proofs.YtkjcoehblekpdaaGreatDoorAv
open Go Go.RowKit
theorem hexd_r : ∀ k : Fin 16, hexd k.val ≠ 58 ∧ hexd k.val ≠ 46 ∧ hx (hexd k.val) = k.val := by decide
theorem hexd_lt (n : Nat) (h : n < 16) : hexd n ≠ 58 ∧ hexd n ≠ 46 ∧ hx (hexd n) = n := hexd_r ⟨n, h⟩
theorem data_inj {s t : ByteArray} (h : s.data.toList = t.data.toList) : s = t := by
 rw [← data_mk8 s, h, data_mk8]
theorem app_dt (a b : ByteArray) : (a ++ b).data.toList = a.data.toList ++ b.data.toList := by
 rw [ByteArray.data_append, Array.toList_append]
theorem hexB_data (n : Nat) : (hexB n).data.toList = hexL n := rfl
end Go.Proofs.YtkjcoehblekpdaaGreatDoorAv
namespace Go.Proofs.YtkjcoehblekpdaaGreatDoorAv
open Go Go.RowKit
theorem sp_no (c : UInt8) : ∀ x : List UInt8, c ∉ x → split1 c x = [x]
 | [], _ => rfl
 | b :: x, h => by
  have hb : b ≠ c := fun e => h (e ▸ List.mem_cons_self)
  unfold split1
  rw [if_neg hb, sp_no c x (fun h2 => h (List.mem_cons_of_mem _ h2))]
end Go.Proofs.YtkjcoehblekpdaaGreatDoorAv
namespace Go.Proofs.YtkjcoehblekpdaaGreatDoorAv
open Go Go.RowKit
theorem itoa_b : ∀ x : Fin 256, p10 (itoaB (x.val : Int)) = (0, x.val) ∧ ((46 : UInt8) ∉ (itoaB (x.val : Int)).data.toList ∧ (58 : UInt8) ∉ (itoaB (x.val : Int)).data.toList) ∧ (itoaB (x.val : Int)).data.toList ≠ [] := by decide +kernel
theorem itoa_bb (x : Int) (h : 0 ≤ x ∧ x ≤ 255) : p10 (itoaB x) = (0, x.toNat) ∧ ((46 : UInt8) ∉ (itoaB x).data.toList ∧ (58 : UInt8) ∉ (itoaB x).data.toList) ∧ (itoaB x).data.toList ≠ [] := by
 have := itoa_b ⟨x.toNat, by omega⟩
 have e : (((⟨x.toNat, by omega⟩ : Fin 256).val : Nat) : Int) = x := by
  show ((x.toNat : Nat) : Int) = x
  omega
 rw [e] at this
 exact this
theorem is4_at (a : Nat → Int) (h4 : is4 a = true) : (∀ k, k < 10 → a k = 0) ∧ a 10 = 255 ∧ a 11 = 255 := by
 unfold is4 at h4
 simp only [Bool.and_eq_true, beq_iff_eq, and_true] at h4
 obtain ⟨h0, h1, h2, h3, h4, h5, h6, h7, h8, h9, h10, h11⟩ := h4
 refine ⟨fun k hk => ?_, h10, h11⟩
 match k, hk with
 | 0, _ => exact h0
 | 1, _ => exact h1
 | 2, _ => exact h2
 | 3, _ => exact h3
 | 4, _ => exact h4
 | 5, _ => exact h5
 | 6, _ => exact h6
 | 7, _ => exact h7
 | 8, _ => exact h8
 | 9, _ => exact h9
end Go.Proofs.YtkjcoehblekpdaaGreatDoorAv
namespace Go.Proofs.YtkjcoehblekpdaaGreatDoorAv
open Go Go.RowKit
structure A16 where
 x0 : Int
 x1 : Int
 x2 : Int
 x3 : Int
 x4 : Int
 x5 : Int
 x6 : Int
 x7 : Int
 x8 : Int
 x9 : Int
 x10 : Int
 x11 : Int
 x12 : Int
 x13 : Int
 x14 : Int
 x15 : Int
def A16.f (a : A16) : Nat → Int := fun i => [a.x0, a.x1, a.x2, a.x3, a.x4, a.x5, a.x6, a.x7, a.x8, a.x9, a.x10, a.x11, a.x12, a.x13, a.x14, a.x15].getD i 0
def mk16 (g : Nat → Int) : A16 := ⟨g 0, g 1, g 2, g 3, g 4, g 5, g 6, g 7, g 8, g 9, g 10, g 11, g 12, g 13, g 14, g 15⟩
structure Hst where
 a : A16
 q : Sq ByteArray
def a16X (a : A16) : List XV := [X8 a.x0, X8 a.x1, X8 a.x2, X8 a.x3, X8 a.x4, X8 a.x5, X8 a.x6, X8 a.x7, X8 a.x8, X8 a.x9, X8 a.x10, X8 a.x11, X8 a.x12, X8 a.x13, X8 a.x14, X8 a.x15]
def hostX (h : Hst) : List XV := [X8 h.a.x0, X8 h.a.x1, X8 h.a.x2, X8 h.a.x3, X8 h.a.x4, X8 h.a.x5, X8 h.a.x6, X8 h.a.x7, X8 h.a.x8, X8 h.a.x9, X8 h.a.x10, X8 h.a.x11, X8 h.a.x12, X8 h.a.x13, X8 h.a.x14, X8 h.a.x15, .fz h.q.n 1 fun j => [XT (h.q.g j)]]
def dH : Hst := ⟨⟨0, 0, 0, 0, 0, 0, 0, 0, 0, 0, 0, 0, 0, 0, 0, 0⟩, ⟨0, fun _ => ⟨#[]⟩⟩⟩
def lenH (l : List Hst) : Nat := l.length
def getH (l : List Hst) (i : Nat) : Hst := l.getD i dH
def hostsL (l : List Hst) : XV := .fz (lenH l) 17 fun i => hostX (getH l i)
def oksN (w : List ByteArray) : Nat → Bool
 | 0 => true
 | i + 1 => oksN w i && decide ((toA (w.getD (i + 1) ⟨#[]⟩)).2 = 0)
def nmF (w : List ByteArray) (j : Nat) : ByteArray := (toA (w.getD (j + 1) ⟨#[]⟩)).1
def lnH (w : List ByteArray) : Hst := ⟨mk16 (parA (w.getD 0 ⟨#[]⟩)), ⟨w.length - 1, nmF w⟩⟩
def lnOk (w : List ByteArray) : Bool := decide (2 ≤ w.length) && (decide (parN (w.getD 0 ⟨#[]⟩) = 0) && oksN w (w.length - 1))
def putH (o : List Hst) (w : List ByteArray) : List Hst := if lenH o ≠ 64 ∧ lnOk w = true then o ++ [lnH w] else o
def prsN (l : List ByteArray) : Nat → List Hst
 | 0 => []
 | i + 1 => putH (prsN l i) (words (l.getD i ⟨#[]⟩))
def linesS (s : ByteArray) : List ByteArray := splitS s ⟨#[10]⟩
def prsH (s : ByteArray) : List Hst := prsN (linesS s) (linesS s).length
def wdN (l : List ByteArray) (i : Nat) : List ByteArray := words (l.getD i ⟨#[]⟩)
def cxy : Cx := { cx0 with C := [(21, splitC), (22, fieldsC), (23, parC), (24, toAC)] }
def prsR (l : List ByteArray) (i : Nat) : Nat × XRow := (0, .vec 30 true (lenH (prsN l i)) 17 fun j => hostX (getH (prsN l i) j))
def prsI (l : List ByteArray) : Inv where
 σ := IL
 S := fun x => ⟨[(3, .sl 0 17 0 (lenH (prsN l x.i))), (15, strsL l), (16, XI l.length), (17, XI x.i)], [prsR l x.i], 1, false, []⟩
 inv := fun x => x.i ≤ l.length
 μ := fun x => l.length - x.i
def prsJ (l : List ByteArray) (p : IL) : Inv where
 σ := IL
 S := fun x => ⟨[(3, .sl 0 17 0 (lenH (prsN l p.i))), (9, .ptr 2 0 0 0), (15, strsL l), (16, XI l.length), (17, XI p.i), (43, .fz ((wdN l p.i).length - 1) 1 fun j => [XT ((wdN l p.i).getD (j + 1) ⟨#[]⟩)]), (44, XI ((wdN l p.i).length - 1 : Nat)), (45, XI x.i)],
  [prsR l p.i, (2, .one 30 true (a16X (mk16 (parA ((wdN l p.i).getD 0 ⟨#[]⟩))) ++ [.sl 3 1 0 x.i])), (3, .vec 9 true x.i 1 fun j => [XT (nmF (wdN l p.i) j)])], 4, false, []⟩
 inv := fun x => x.i ≤ (wdN l p.i).length - 1 ∧ p.i < l.length ∧ lenH (prsN l p.i) ≠ 64 ∧ 2 ≤ (wdN l p.i).length ∧ parN ((wdN l p.i).getD 0 ⟨#[]⟩) = 0 ∧ oksN (wdN l p.i) x.i = true
 μ := fun x => (wdN l p.i).length - 1 - x.i
def prsE (s : ByteArray) : Env := { loops := [(0, prsI (linesS s))], loopsP := [(2, ⟨IL, prsJ (linesS s)⟩)], own := [(2, [(3, 30, 17)]), (10, [(9, 9, 1)])], frzc := [(17, [(9, 16)])] }
def prsV_a (s : ByteArray) :=
 (splitS s ⟨#[10]⟩)
def prsV_b (s : ByteArray) (p : { α := IL, J := prsJ (linesS s) : InvP }.α) :=
 ((wdN (prsV_a s) p.i).getD 0 ⟨#[]⟩)
def prsV_c (s : ByteArray) (x : IL) :=
 ((words ((prsV_a s).getD (↑x.i : Int).toNat ⟨#[]⟩)).getD ((0 : Nat)) ⟨#[]⟩)
def prsV_d (s : ByteArray) :=
 ((XV.fz (prsV_a s).length 1 fun (i : Nat) => [XT ((prsV_a s).getD i ⟨#[]⟩)]) = XV.fz (prsV_a s).length 1 fun (i : Nat) => [XT ((prsV_a s).getD i ⟨#[]⟩)])
def prsV_e (s : ByteArray) (x : IL) :=
 (↑(words ((prsV_a s).getD (↑x.i : Int).toNat ⟨#[]⟩)).length : Int)
def prsV_f :=
 ((30 : TypeId) = (30 : TypeId) ∧ true = true ∧ (17 : Nat) = (17 : Nat))
def prsV (s : ByteArray) : Prop :=
 s.size < (4294967281 : Nat) ∧ (1 : Nat) ≤ (1 : Nat) ∧ (∃ (x : (prsI (linesS s)).σ), x.i.le (prsV_a s).length ∧ true = true ∧ XV.sl 0 17 0 0 = XV.sl 0 17 0 (lenH (prsN (prsV_a s) x.i)) ∧ (prsV_d s) ∧ (↑(prsV_a s).length : Int) = (↑(prsV_a s).length : Int) ∧ (0 : Int) = (↑x.i : Int) ∧ (((30 : Nat) = (30 : TypeId) ∧ true = true ∧ (17 : Nat) = (17 : Nat)) ∧ (0 : Nat) = lenH (prsN (prsV_a s) x.i) ∧ ∀ (j : Nat), j < (0 : Nat) → [] = (hostX (getH (prsN (prsV_a s) x.i) j))) ∧ True) ∧ ∀ (x : IL), x.i.le (prsV_a s).length → (decide ((↑x.i : Int) < (↑(prsV_a s).length : Int)) = true → (0 : Int) ≤ (↑x.i : Int) ∧ (↑x.i : Int) < (↑(prsV_a s).length : Int) ∧ ((prsV_a s).getD (↑x.i : Int).toNat ⟨#[]⟩).size ≤ (1000000 : Nat) ∧ ((decide ((prsV_e s x) < (2 : Int)) || (↑(lenH (prsN (prsV_a s) x.i)) : Int) == (64 : Int)) = true → in64 ((↑x.i : Int) + (1 : Int)) ∧ ∃ (x' : (prsI (linesS s)).σ), x'.i.le (prsV_a s).length ∧ (prsV_a s).length - x'.i < (prsV_a s).length - x.i ∧ true = true ∧ XV.sl 0 17 0 (lenH (prsN (prsV_a s) x.i)) = XV.sl 0 17 0 (lenH (prsN (prsV_a s) x'.i)) ∧ (prsV_d s) ∧ (↑(prsV_a s).length : Int) = (↑(prsV_a s).length : Int) ∧ (↑x.i : Int) + (1 : Int) = (↑x'.i : Int) ∧ (prsV_f ∧ lenH (prsN (prsV_a s) x.i) = lenH (prsN (prsV_a s) x'.i) ∧ ∀ (j : Nat), j < lenH (prsN (prsV_a s) x.i) → (hostX (getH (prsN (prsV_a s) x.i) j)) = (hostX (getH (prsN (prsV_a s) x'.i) j))) ∧ True) ∧ ((decide ((prsV_e s x) < (2 : Int)) || (↑(lenH (prsN (prsV_a s) x.i)) : Int) == (64 : Int)) = false → (0 : Int) ≤ (0 : Int) ∧ (0 : Int) < (prsV_e s x) ∧ (prsV_c s x).size ≤ (1000000 : Nat) ∧ ((parN (prsV_c s x) != (0 : Int)) = true → in64 ((↑x.i : Int) + (1 : Int)) ∧ ∃ (x' : (prsI (linesS s)).σ), x'.i.le (prsV_a s).length ∧ (prsV_a s).length - x'.i < (prsV_a s).length - x.i ∧ true = true ∧ XV.sl 0 17 0 (lenH (prsN (prsV_a s) x.i)) = XV.sl 0 17 0 (lenH (prsN (prsV_a s) x'.i)) ∧ (prsV_d s) ∧ (↑(prsV_a s).length : Int) = (↑(prsV_a s).length : Int) ∧ (↑x.i : Int) + (1 : Int) = (↑x'.i : Int) ∧ (prsV_f ∧ lenH (prsN (prsV_a s) x.i) = lenH (prsN (prsV_a s) x'.i) ∧ ∀ (j : Nat), j < lenH (prsN (prsV_a s) x.i) → (hostX (getH (prsN (prsV_a s) x.i) j)) = (hostX (getH (prsN (prsV_a s) x'.i) j))) ∧ True) ∧ ((parN (prsV_c s x) != (0 : Int)) = false → (0 : Int) ≤ (1 : Int) ∧ (1 : Int) ≤ (prsV_e s x) ∧ (prsV_e s x) ≤ (prsV_e s x) ∧ ∃ (p : { α := IL, J := prsJ (linesS s) : InvP }.α), (∃ (x_1 : ({ α := IL, J := prsJ (linesS s) : InvP }.J p).σ), (x_1.i ≤ (wdN (prsV_a s) p.i).length - (1 : Nat) ∧ p.i < (prsV_a s).length ∧ lenH (prsN (prsV_a s) p.i) ≠ (64 : Nat) ∧ (2 : Nat) ≤ (wdN (prsV_a s) p.i).length ∧ parN (prsV_b s p) = (0 : Int) ∧ oksN (wdN (prsV_a s) p.i) x_1.i = true) ∧ true = true ∧ XV.sl 0 17 0 (lenH (prsN (prsV_a s) x.i)) = XV.sl 0 17 0 (lenH (prsN (prsV_a s) p.i)) ∧ XV.ptr ((1 : Nat) + (1 : Nat)) 0 0 0 = XV.ptr 2 0 0 0 ∧ (prsV_d s) ∧ (↑(prsV_a s).length : Int) = (↑(prsV_a s).length : Int) ∧ (↑x.i : Int) = (↑p.i : Int) ∧ ((XV.fz ((prsV_e s x) - (1 : Int)).toNat 1 fun (j : Nat) => [XT ((words ((prsV_a s).getD (↑x.i : Int).toNat ⟨#[]⟩)).getD ((1 : Nat) + j) ⟨#[]⟩)]) = XV.fz ((wdN (prsV_a s) p.i).length - (1 : Nat)) 1 fun (j : Nat) => [XT ((wdN (prsV_a s) p.i).getD (j + (1 : Nat)) ⟨#[]⟩)]) ∧ (↑((prsV_e s x) - (1 : Int)).toNat : Int) = (↑((wdN (prsV_a s) p.i).length - (1 : Nat)) : Int) ∧ (0 : Int) = (↑x_1.i : Int) ∧ (prsV_f ∧ lenH (prsN (prsV_a s) x.i) = lenH (prsN (prsV_a s) p.i) ∧ ∀ (j : Nat), j < lenH (prsN (prsV_a s) x.i) → (hostX (getH (prsN (prsV_a s) x.i) j)) = (hostX (getH (prsN (prsV_a s) p.i) j))) ∧ (((30 : Nat) = (30 : TypeId) ∧ true = true) ∧ parA (prsV_c s x) 0 = parA (prsV_b s p) 0 ∧ parA (prsV_c s x) 1 = parA (prsV_b s p) 1 ∧ parA (prsV_c s x) 2 = parA (prsV_b s p) 2 ∧ parA (prsV_c s x) 3 = parA (prsV_b s p) 3 ∧ parA (prsV_c s x) 4 = parA (prsV_b s p) 4 ∧ parA (prsV_c s x) 5 = parA (prsV_b s p) 5 ∧ parA (prsV_c s x) 6 = parA (prsV_b s p) 6 ∧ parA (prsV_c s x) 7 = parA (prsV_b s p) 7 ∧ parA (prsV_c s x) 8 = parA (prsV_b s p) 8 ∧ parA (prsV_c s x) 9 = parA (prsV_b s p) 9 ∧ parA (prsV_c s x) 10 = parA (prsV_b s p) 10 ∧ parA (prsV_c s x) 11 = parA (prsV_b s p) 11 ∧ parA (prsV_c s x) 12 = parA (prsV_b s p) 12 ∧ parA (prsV_c s x) 13 = parA (prsV_b s p) 13 ∧ parA (prsV_c s x) 14 = parA (prsV_b s p) 14 ∧ parA (prsV_c s x) 15 = parA (prsV_b s p) 15 ∧ XV.sl ((1 : Nat) + (1 : Nat) + (1 : Nat)) 1 0 0 = XV.sl 3 1 0 x_1.i ∧ True) ∧ (((9 : Nat) = (9 : TypeId) ∧ true = true ∧ (1 : Nat) = (1 : Nat)) ∧ (0 : Nat) = x_1.i ∧ ∀ (j : Nat), j < (0 : Nat) → [] = [XT (nmF (wdN (prsV_a s) p.i) j)]) ∧ True) ∧ ∀ (x_1 : IL), x_1.i ≤ (wdN (prsV_a s) p.i).length - (1 : Nat) ∧ p.i < (prsV_a s).length ∧ lenH (prsN (prsV_a s) p.i) ≠ (64 : Nat) ∧ (2 : Nat) ≤ (wdN (prsV_a s) p.i).length ∧ parN (prsV_b s p) = (0 : Int) ∧ oksN (wdN (prsV_a s) p.i) x_1.i = true → (decide ((↑x_1.i : Int) < (↑((wdN (prsV_a s) p.i).length - (1 : Nat)) : Int)) = true → (0 : Int) ≤ (↑x_1.i : Int) ∧ (↑x_1.i : Int) < (↑((wdN (prsV_a s) p.i).length - (1 : Nat)) : Int) ∧ (((toA ((wdN (prsV_a s) p.i).getD ((↑x_1.i : Int).toNat + (1 : Nat)) ⟨#[]⟩)).snd != (0 : Int)) = true → in64 ((↑p.i : Int) + (1 : Int)) ∧ ∃ (x' : (prsI (linesS s)).σ), x'.i.le (prsV_a s).length ∧ (prsV_a s).length - x'.i < (prsV_a s).length - x.i ∧ true = true ∧ XV.sl 0 17 0 (lenH (prsN (prsV_a s) p.i)) = XV.sl 0 17 0 (lenH (prsN (prsV_a s) x'.i)) ∧ (prsV_d s) ∧ (↑(prsV_a s).length : Int) = (↑(prsV_a s).length : Int) ∧ (↑p.i : Int) + (1 : Int) = (↑x'.i : Int) ∧ (prsV_f ∧ lenH (prsN (prsV_a s) p.i) = lenH (prsN (prsV_a s) x'.i) ∧ ∀ (j : Nat), j < lenH (prsN (prsV_a s) p.i) → (hostX (getH (prsN (prsV_a s) p.i) j)) = (hostX (getH (prsN (prsV_a s) x'.i) j))) ∧ True) ∧ (((toA ((wdN (prsV_a s) p.i).getD ((↑x_1.i : Int).toNat + (1 : Nat)) ⟨#[]⟩)).snd != (0 : Int)) = false → x_1.i = x_1.i ∧ (x_1.i + (1 : Nat)) * (16 : Nat) ≤ (140737488355328 : Nat) ∧ x_1.i + (1 : Nat) ≤ (140737488355328 : Nat) ∧ in64 ((↑x_1.i : Int) + (1 : Int)) ∧ ∃ (x' : ({ α := IL, J := prsJ (linesS s) : InvP }.J p).σ), (x'.i ≤ (wdN (prsV_a s) p.i).length - (1 : Nat) ∧ p.i < (prsV_a s).length ∧ lenH (prsN (prsV_a s) p.i) ≠ (64 : Nat) ∧ (2 : Nat) ≤ (wdN (prsV_a s) p.i).length ∧ parN (prsV_b s p) = (0 : Int) ∧ oksN (wdN (prsV_a s) p.i) x'.i = true) ∧ (wdN (prsV_a s) p.i).length - (1 : Nat) - x'.i < (wdN (prsV_a s) p.i).length - (1 : Nat) - x_1.i ∧ true = true ∧ XV.sl 0 17 0 (lenH (prsN (prsV_a s) p.i)) = XV.sl 0 17 0 (lenH (prsN (prsV_a s) p.i)) ∧ XV.ptr 2 0 0 0 = XV.ptr 2 0 0 0 ∧ (prsV_d s) ∧ (↑(prsV_a s).length : Int) = (↑(prsV_a s).length : Int) ∧ (↑p.i : Int) = (↑p.i : Int) ∧ ((XV.fz ((wdN (prsV_a s) p.i).length - (1 : Nat)) 1 fun (j : Nat) => [XT ((wdN (prsV_a s) p.i).getD (j + (1 : Nat)) ⟨#[]⟩)]) = XV.fz ((wdN (prsV_a s) p.i).length - (1 : Nat)) 1 fun (j : Nat) => [XT ((wdN (prsV_a s) p.i).getD (j + (1 : Nat)) ⟨#[]⟩)]) ∧ (↑((wdN (prsV_a s) p.i).length - (1 : Nat)) : Int) = (↑((wdN (prsV_a s) p.i).length - (1 : Nat)) : Int) ∧ (↑x_1.i : Int) + (1 : Int) = (↑x'.i : Int) ∧ (prsV_f ∧ lenH (prsN (prsV_a s) p.i) = lenH (prsN (prsV_a s) p.i) ∧ ∀ (j : Nat), j < lenH (prsN (prsV_a s) p.i) → (hostX (getH (prsN (prsV_a s) p.i) j)) = (hostX (getH (prsN (prsV_a s) p.i) j))) ∧ (((30 : TypeId) = (30 : TypeId) ∧ true = true) ∧ parA (prsV_b s p) 0 = parA (prsV_b s p) 0 ∧ parA (prsV_b s p) 1 = parA (prsV_b s p) 1 ∧ parA (prsV_b s p) 2 = parA (prsV_b s p) 2 ∧ parA (prsV_b s p) 3 = parA (prsV_b s p) 3 ∧ parA (prsV_b s p) 4 = parA (prsV_b s p) 4 ∧ parA (prsV_b s p) 5 = parA (prsV_b s p) 5 ∧ parA (prsV_b s p) 6 = parA (prsV_b s p) 6 ∧ parA (prsV_b s p) 7 = parA (prsV_b s p) 7 ∧ parA (prsV_b s p) 8 = parA (prsV_b s p) 8 ∧ parA (prsV_b s p) 9 = parA (prsV_b s p) 9 ∧ parA (prsV_b s p) 10 = parA (prsV_b s p) 10 ∧ parA (prsV_b s p) 11 = parA (prsV_b s p) 11 ∧ parA (prsV_b s p) 12 = parA (prsV_b s p) 12 ∧ parA (prsV_b s p) 13 = parA (prsV_b s p) 13 ∧ parA (prsV_b s p) 14 = parA (prsV_b s p) 14 ∧ parA (prsV_b s p) 15 = parA (prsV_b s p) 15 ∧ XV.sl 3 1 0 (x_1.i + (1 : Nat)) = XV.sl 3 1 0 x'.i ∧ True) ∧ (((9 : TypeId) = (9 : TypeId) ∧ true = true ∧ (1 : Nat) = (1 : Nat)) ∧ x_1.i + (1 : Nat) = x'.i ∧ ∀ (j : Nat), j < x_1.i + (1 : Nat) → [XT (bif j.blt x_1.i then nmF (wdN (prsV_a s) p.i) j else (toA ((wdN (prsV_a s) p.i).getD ((↑x_1.i : Int).toNat + (1 : Nat)) ⟨#[]⟩)).fst)] = [XT (nmF (wdN (prsV_a s) p.i) j)]) ∧ True)) ∧ (decide ((↑x_1.i : Int) < (↑((wdN (prsV_a s) p.i).length - (1 : Nat)) : Int)) = false → x_1.i = x_1.i ∧ lenH (prsN (prsV_a s) p.i) = lenH (prsN (prsV_a s) p.i) ∧ (lenH (prsN (prsV_a s) p.i) + (1 : Nat)) * (40 : Nat) ≤ (140737488355328 : Nat) ∧ lenH (prsN (prsV_a s) p.i) + (1 : Nat) ≤ (140737488355328 : Nat) ∧ in64 ((↑p.i : Int) + (1 : Int)) ∧ ∃ (x' : (prsI (linesS s)).σ), x'.i.le (prsV_a s).length ∧ (prsV_a s).length - x'.i < (prsV_a s).length - x.i ∧ true = true ∧ XV.sl 0 17 0 (lenH (prsN (prsV_a s) p.i) + (1 : Nat)) = XV.sl 0 17 0 (lenH (prsN (prsV_a s) x'.i)) ∧ (prsV_d s) ∧ (↑(prsV_a s).length : Int) = (↑(prsV_a s).length : Int) ∧ (↑p.i : Int) + (1 : Int) = (↑x'.i : Int) ∧ (prsV_f ∧ lenH (prsN (prsV_a s) p.i) + (1 : Nat) = lenH (prsN (prsV_a s) x'.i) ∧ ∀ (j : Nat), j < lenH (prsN (prsV_a s) p.i) + (1 : Nat) → [X8 (bif j.blt (lenH (prsN (prsV_a s) p.i)) then (getH (prsN (prsV_a s) p.i) j).a.x0 else parA (prsV_b s p) 0), X8 (bif j.blt (lenH (prsN (prsV_a s) p.i)) then (getH (prsN (prsV_a s) p.i) j).a.x1 else parA (prsV_b s p) 1), X8 (bif j.blt (lenH (prsN (prsV_a s) p.i)) then (getH (prsN (prsV_a s) p.i) j).a.x2 else parA (prsV_b s p) 2), X8 (bif j.blt (lenH (prsN (prsV_a s) p.i)) then (getH (prsN (prsV_a s) p.i) j).a.x3 else parA (prsV_b s p) 3), X8 (bif j.blt (lenH (prsN (prsV_a s) p.i)) then (getH (prsN (prsV_a s) p.i) j).a.x4 else parA (prsV_b s p) 4), X8 (bif j.blt (lenH (prsN (prsV_a s) p.i)) then (getH (prsN (prsV_a s) p.i) j).a.x5 else parA (prsV_b s p) 5), X8 (bif j.blt (lenH (prsN (prsV_a s) p.i)) then (getH (prsN (prsV_a s) p.i) j).a.x6 else parA (prsV_b s p) 6), X8 (bif j.blt (lenH (prsN (prsV_a s) p.i)) then (getH (prsN (prsV_a s) p.i) j).a.x7 else parA (prsV_b s p) 7), X8 (bif j.blt (lenH (prsN (prsV_a s) p.i)) then (getH (prsN (prsV_a s) p.i) j).a.x8 else parA (prsV_b s p) 8), X8 (bif j.blt (lenH (prsN (prsV_a s) p.i)) then (getH (prsN (prsV_a s) p.i) j).a.x9 else parA (prsV_b s p) 9), X8 (bif j.blt (lenH (prsN (prsV_a s) p.i)) then (getH (prsN (prsV_a s) p.i) j).a.x10 else parA (prsV_b s p) 10), X8 (bif j.blt (lenH (prsN (prsV_a s) p.i)) then (getH (prsN (prsV_a s) p.i) j).a.x11 else parA (prsV_b s p) 11), X8 (bif j.blt (lenH (prsN (prsV_a s) p.i)) then (getH (prsN (prsV_a s) p.i) j).a.x12 else parA (prsV_b s p) 12), X8 (bif j.blt (lenH (prsN (prsV_a s) p.i)) then (getH (prsN (prsV_a s) p.i) j).a.x13 else parA (prsV_b s p) 13), X8 (bif j.blt (lenH (prsN (prsV_a s) p.i)) then (getH (prsN (prsV_a s) p.i) j).a.x14 else parA (prsV_b s p) 14), X8 (bif j.blt (lenH (prsN (prsV_a s) p.i)) then (getH (prsN (prsV_a s) p.i) j).a.x15 else parA (prsV_b s p) 15), XV.fz (bif j.blt (lenH (prsN (prsV_a s) p.i)) then (getH (prsN (prsV_a s) p.i) j).q.n else x_1.i) 1 fun (j_1 : Nat) => bif j.blt (lenH (prsN (prsV_a s) p.i)) then [XT ((getH (prsN (prsV_a s) p.i) j).q.g j_1)] else [XT (nmF (wdN (prsV_a s) p.i) j_1)]] = (hostX (getH (prsN (prsV_a s) x'.i) j))) ∧ True)))) ∧ (decide ((↑x.i : Int) < (↑(prsV_a s).length : Int)) = false → ((17 : Nat) = (17 : Nat) ∧ (17 : Nat) = (17 : Nat)) ∧ lenH (prsN (prsV_a s) x.i) = lenH (prsN (prsV_a s) x.i) ∧ lenH (prsN (prsV_a s) x.i) = lenH (prsH s) ∧ ∀ (j : Nat), j < lenH (prsN (prsV_a s) x.i) → (hostX (getH (prsN (prsV_a s) x.i) j)) = (hostX (getH (prsH s) j)))
theorem prsV_eq (s : ByteArray) : prsV s = (funC cxy Tryz.f11 (mkSc (prsE s) (bodyOf Tryz.f11)) [XT s] (hostsL (prsH s))) := by kernel_rfl
theorem fz_eq {n m sz : Nat} {f g : Nat → List XV} (h : n = m) (k : ∀ j, f j = g j) : XV.fz n sz f = XV.fz m sz g := by rw [h, funext k]
theorem splitS_each (s : ByteArray) (c : UInt8) (x : ByteArray) (h : x ∈ splitS s ⟨#[c]⟩) : x.size ≤ s.size := by
 rw [splitS_one] at h
 obtain ⟨y, hy, rfl⟩ := List.mem_map.1 h
 rw [mk8_size, size_data s]
 exact split1_each c _ y hy
theorem getD_all {α : Type} {l : List α} {d : α} {P : α → Prop} (hd : P d) (h : ∀ x ∈ l, P x) (i : Nat) : P (l.getD i d) := by
 rw [List.getD_eq_getElem?_getD]
 cases e : l[i]? with
 | none => exact hd
 | some x => exact h x (List.mem_of_getElem? e)
theorem words_each (s x : ByteArray) (h : x ∈ words s) : x.size ≤ s.size := by
 unfold words at h
 have h1 := splitS_each _ 32 x (List.mem_filter.1 h).1
 have h2 := cutB_size s 35
 have h3 : (replB (cutB s ⟨#[35]⟩).1 ⟨#[9]⟩ ⟨#[32]⟩).size ≤ 1 * (cutB s ⟨#[35]⟩).1.size := replB_size _ ⟨#[32]⟩ 9 1 (by decide) (by decide)
 omega
theorem words_len (s : ByteArray) : (words s).length ≤ s.size + 1 := by
 unfold words wPieces
 have h1 := List.length_filter_le isNE (splitS (replB (cutB s ⟨#[35]⟩).1 ⟨#[9]⟩ ⟨#[32]⟩) ⟨#[32]⟩)
 have h4 := splitS_len (replB (cutB s ⟨#[35]⟩).1 ⟨#[9]⟩ ⟨#[32]⟩) 32
 have h2 := cutB_size s 35
 have h3 : (replB (cutB s ⟨#[35]⟩).1 ⟨#[9]⟩ ⟨#[32]⟩).size ≤ 1 * (cutB s ⟨#[35]⟩).1.size := replB_size _ ⟨#[32]⟩ 9 1 (by decide) (by decide)
 omega
theorem oksN_le (w : List ByteArray) : ∀ n j, j ≤ n → oksN w n = true → oksN w j = true
  | 0, j, h, k => by obtain rfl : j = 0 := by omega
                     exact k
  | n + 1, j, h, k => by
    by_cases e : j = n + 1
    · rw [e]; exact k
    · rw [oksN, Bool.and_eq_true] at k
      exact oksN_le w n j (by omega) k.1
theorem lenH_prsN (l : List ByteArray) : ∀ i, lenH (prsN l i) ≤ 64
 | 0 => Nat.zero_le _
 | i + 1 => by
  have ih := lenH_prsN l i
  unfold prsN putH
  split
  ·rename_i h
   unfold lenH at *
   rw [List.length_append, List.length_singleton]
   omega
  ·exact ih
theorem putH_no {o : List Hst} {w : List ByteArray} (h : lenH o = 64 ∨ lnOk w = false) : putH o w = o := if_neg fun k => by
 rcases h with h | h
 ·exact k.1 h
 ·rw [h] at k; exact Bool.noConfusion k.2
theorem getH_app (o : List Hst) (h : Hst) (j : Nat) (hj : j < lenH o + 1) : getH (o ++ [h]) j = if j < lenH o then getH o j else h := by
 unfold getH lenH at *
 split
 ·rename_i k
  rw [List.getD_eq_getElem?_getD, List.getD_eq_getElem?_getD, List.getElem?_append_left k]
 ·rename_i k
  rw [List.getD_eq_getElem?_getD, List.getElem?_append_right (by omega), show j - o.length = 0 by omega]
  rfl
set_option maxHeartbeats 2000000 in
theorem prs_v (s : ByteArray) (hs : s.size ≤ 1000000000) (hsz : ∀ i, ((linesS s).getD i ⟨#[]⟩).size ≤ 1000000) : prsV s := by
 unfold prsV prsV_f prsV_e prsV_d prsV_c prsV_b prsV_a
 have hll := splitS_len s 10
 have hsz : ∀ i, ((splitS s ⟨#[10]⟩).getD i ⟨#[]⟩).size ≤ 1000000 := hsz
 have hP : prsH s = prsN (splitS s ⟨#[10]⟩) (splitS s ⟨#[10]⟩).length := rfl
 have hw : ∀ i, wdN (splitS s ⟨#[10]⟩) i = words ((splitS s ⟨#[10]⟩).getD i ⟨#[]⟩) := fun _ => rfl
 rw [hP]
 refine ⟨by omega, by decide, ⟨⟨0⟩, Nat.zero_le _, rfl, rfl, rfl, rfl, rfl, ⟨⟨rfl, rfl, rfl⟩, rfl, fun j hj => absurd hj (Nat.not_lt_zero _)⟩, trivial⟩, ?_⟩
 rintro ⟨i⟩ hi
 have hi : i ≤ (splitS s ⟨#[10]⟩).length := hi
 dsimp only
 refine ⟨fun k => ?_, fun k => ?_⟩
 ·have k : (i : Int) < (splitS s ⟨#[10]⟩).length := of_decide_eq_true k
  rw [Int.toNat_natCast]
  have hp : prsN (splitS s ⟨#[10]⟩) (i + 1) = putH (prsN (splitS s ⟨#[10]⟩) i) (words ((splitS s ⟨#[10]⟩).getD i ⟨#[]⟩)) := rfl
  have h64 := lenH_prsN (splitS s ⟨#[10]⟩) i
  have hwl := words_len ((splitS s ⟨#[10]⟩).getD i ⟨#[]⟩)
  have hsi := hsz i
  have stay : putH (prsN (splitS s ⟨#[10]⟩) i) (words ((splitS s ⟨#[10]⟩).getD i ⟨#[]⟩)) = prsN (splitS s ⟨#[10]⟩) i → ∃ (x' : (prsI (linesS s)).σ), (Nat.le x'.i (splitS s ⟨#[10]⟩).length) ∧ (splitS s ⟨#[10]⟩).length - x'.i < (splitS s ⟨#[10]⟩).length - i ∧ true = true ∧ XV.sl 0 17 0 (lenH (prsN (splitS s ⟨#[10]⟩) i)) = XV.sl 0 17 0 (lenH (prsN (splitS s ⟨#[10]⟩) x'.i)) ∧
    ((XV.fz (splitS s ⟨#[10]⟩).length 1 fun i => [XT ((splitS s ⟨#[10]⟩).getD i ⟨#[]⟩)]) = XV.fz (splitS s ⟨#[10]⟩).length 1 fun i => [XT ((splitS s ⟨#[10]⟩).getD i ⟨#[]⟩)]) ∧ ((splitS s ⟨#[10]⟩).length : Int) = ((splitS s ⟨#[10]⟩).length : Int) ∧ (i : Int) + 1 = (x'.i : Int) ∧
    (((30 : Nat) = (30 : TypeId) ∧ true = true ∧ (17 : Nat) = 17) ∧ lenH (prsN (splitS s ⟨#[10]⟩) i) = lenH (prsN (splitS s ⟨#[10]⟩) x'.i) ∧ ∀ j, j < lenH (prsN (splitS s ⟨#[10]⟩) i) → hostX (getH (prsN (splitS s ⟨#[10]⟩) i) j) = hostX (getH (prsN (splitS s ⟨#[10]⟩) x'.i) j)) ∧ True := fun e => by
   have e : prsN (splitS s ⟨#[10]⟩) (i + 1) = prsN (splitS s ⟨#[10]⟩) i := e
   exact ⟨⟨i + 1⟩, (show i + 1 ≤ (splitS s ⟨#[10]⟩).length by omega), (show (splitS s ⟨#[10]⟩).length - (i + 1) < (splitS s ⟨#[10]⟩).length - i by omega), rfl, congrArg (fun o => XV.sl 0 17 0 (lenH o)) e.symm, rfl, rfl, rfl, ⟨⟨rfl, rfl, rfl⟩, congrArg lenH e.symm, fun j _ => congrArg (fun o => hostX (getH o j)) e.symm⟩, trivial⟩
  refine ⟨by omega, k, by omega, fun h2 => ⟨by unfold in64; omega, stay (putH_no ?_)⟩, fun h2 => ?_⟩
  ·rw [Bool.or_eq_true, decide_eq_true_eq, beq_iff_eq] at h2
   rcases h2 with h2 | h2
   ·right
    unfold lnOk
    rw [decide_eq_false (by omega)]
    rfl
   ·left; omega
  rw [Bool.or_eq_false_iff, decide_eq_false_iff_not, beq_eq_false_iff_ne] at h2
  obtain ⟨h2, h3⟩ := h2
  have hw0 := words_each ((splitS s ⟨#[10]⟩).getD i ⟨#[]⟩)
  have hwz : ∀ j, ((words ((splitS s ⟨#[10]⟩).getD i ⟨#[]⟩)).getD j ⟨#[]⟩).size ≤ 1000000 := getD_all (P := fun x : ByteArray => x.size ≤ 1000000) (Nat.zero_le _) fun x hx => by have := hw0 x hx; omega
  refine ⟨by decide, by omega, by have := hwz 0; omega, fun h4 => ⟨by unfold in64; omega, stay (putH_no (.inr ?_))⟩, fun h4 => ?_⟩
  ·have h4 : parN ((words ((splitS s ⟨#[10]⟩).getD i ⟨#[]⟩)).getD 0 ⟨#[]⟩) ≠ 0 := by simpa using h4
   unfold lnOk
   rw [decide_eq_false h4, Bool.false_and, Bool.and_false]
  have h4 : parN ((words ((splitS s ⟨#[10]⟩).getD i ⟨#[]⟩)).getD 0 ⟨#[]⟩) = 0 := by simpa using h4
  refine ⟨by decide, by omega, by omega, ⟨i⟩, ⟨⟨0⟩, ⟨Nat.zero_le _, by show i < _; omega, by show lenH (prsN (splitS s ⟨#[10]⟩) i) ≠ 64; omega, by show 2 ≤ (words ((splitS s ⟨#[10]⟩).getD i ⟨#[]⟩)).length; omega, h4, rfl⟩, rfl, rfl, rfl, rfl, rfl, rfl, ?_, ?_, rfl, ⟨⟨rfl, rfl, rfl⟩, rfl, fun _ _ => rfl⟩, ⟨⟨rfl, rfl⟩, rfl, rfl, rfl, rfl, rfl, rfl, rfl, rfl, rfl, rfl, rfl, rfl, rfl, rfl, rfl, rfl, rfl, trivial⟩, ⟨⟨rfl, rfl, rfl⟩, rfl, fun j hj => absurd hj (Nat.not_lt_zero _)⟩, trivial⟩, ?_⟩
  ·show XV.fz _ 1 _ = XV.fz ((words ((splitS s ⟨#[10]⟩).getD i ⟨#[]⟩)).length - 1) 1 fun j => [XT ((words ((splitS s ⟨#[10]⟩).getD i ⟨#[]⟩)).getD (j + 1) ⟨#[]⟩)]
   exact fz_eq (by omega) fun j => congrArg (fun k => [XT ((words ((splitS s ⟨#[10]⟩).getD i ⟨#[]⟩)).getD k ⟨#[]⟩)]) (Nat.add_comm 1 j)
  ·show (((((words ((splitS s ⟨#[10]⟩).getD i ⟨#[]⟩)).length : Int) - 1).toNat : Nat) : Int) = (((words ((splitS s ⟨#[10]⟩).getD i ⟨#[]⟩)).length - 1 : Nat) : Int)
   omega
  rintro ⟨m⟩ ⟨hm, -, -, -, -, hok⟩
  dsimp only at hm hok ⊢
  rw [hw] at hm hok
  rw [hw]
  refine ⟨fun k2 => ?_, fun k2 => ?_⟩
  ·have k2 : (m : Int) < (((words ((splitS s ⟨#[10]⟩).getD i ⟨#[]⟩)).length - 1 : Nat) : Int) := of_decide_eq_true k2
   rw [Int.toNat_natCast]
   refine ⟨by omega, k2, fun h5 => ⟨by unfold in64; omega, stay (putH_no (.inr ?_))⟩, fun h5 => ?_⟩
   ·have h5 : (toA ((words ((splitS s ⟨#[10]⟩).getD i ⟨#[]⟩)).getD (m + 1) ⟨#[]⟩)).2 ≠ 0 := by simpa using h5
    unfold lnOk
    cases e : oksN (words ((splitS s ⟨#[10]⟩).getD i ⟨#[]⟩)) ((words ((splitS s ⟨#[10]⟩).getD i ⟨#[]⟩)).length - 1) with
    | false => rw [Bool.and_false, Bool.and_false]
    | true =>
     have := oksN_le _ _ (m + 1) (by omega) e
     rw [oksN, decide_eq_false h5, Bool.and_false] at this
     exact Bool.noConfusion this
   ·have h5 : (toA ((words ((splitS s ⟨#[10]⟩).getD i ⟨#[]⟩)).getD (m + 1) ⟨#[]⟩)).2 = 0 := by simpa using h5
    refine ⟨rfl, by omega, by omega, by unfold in64; omega, ⟨m + 1⟩, ⟨by show m + 1 ≤ (words ((splitS s ⟨#[10]⟩).getD i ⟨#[]⟩)).length - 1; omega, by show i < _; omega, by omega, by omega, h4, ?_⟩, by show (words ((splitS s ⟨#[10]⟩).getD i ⟨#[]⟩)).length - 1 - (m + 1) < _; omega, rfl, rfl, rfl, rfl, rfl, rfl, rfl, rfl, rfl, ⟨⟨rfl, rfl, rfl⟩, rfl, fun _ _ => rfl⟩, ⟨⟨rfl, rfl⟩, rfl, rfl, rfl, rfl, rfl, rfl, rfl, rfl, rfl, rfl, rfl, rfl, rfl, rfl, rfl, rfl, rfl, trivial⟩, ⟨⟨rfl, rfl, rfl⟩, rfl, fun j hj => ?_⟩, trivial⟩
    ·show oksN _ (m + 1) = true
     rw [oksN, hok, decide_eq_true h5]
     rfl
    ·refine congrArg (fun x => [XT x]) ?_
     rw [bltN]
     by_cases hjm : j < m
     ·rw [decide_eq_true hjm]; rfl
     ·rw [decide_eq_false hjm, show j = m by omega]; rfl
  ·have k2 : ¬ (m : Int) < (((words ((splitS s ⟨#[10]⟩).getD i ⟨#[]⟩)).length - 1 : Nat) : Int) := of_decide_eq_false k2
   obtain rfl : m = (words ((splitS s ⟨#[10]⟩).getD i ⟨#[]⟩)).length - 1 := by omega
   have e : prsN (splitS s ⟨#[10]⟩) (i + 1) = prsN (splitS s ⟨#[10]⟩) i ++ [lnH (words ((splitS s ⟨#[10]⟩).getD i ⟨#[]⟩))] := by
    rw [hp]
    refine if_pos ⟨by omega, ?_⟩
    unfold lnOk
    rw [decide_eq_true (by omega), decide_eq_true h4, hok]
    rfl
   have el : lenH (prsN (splitS s ⟨#[10]⟩) i) + 1 = lenH (prsN (splitS s ⟨#[10]⟩) (i + 1)) := by
    rw [e]
    unfold lenH
    rw [List.length_append, List.length_singleton]
   refine ⟨rfl, rfl, by omega, by omega, by unfold in64; omega, ⟨i + 1⟩, (show i + 1 ≤ (splitS s ⟨#[10]⟩).length by omega), (show (splitS s ⟨#[10]⟩).length - (i + 1) < (splitS s ⟨#[10]⟩).length - i by omega), rfl, congrArg (XV.sl 0 17 0) el, rfl, rfl, rfl, ⟨⟨rfl, rfl, rfl⟩, el, fun j hj => ?_⟩, trivial⟩
   show _ = hostX (getH (prsN (splitS s ⟨#[10]⟩) (i + 1)) j)
   rw [e, getH_app _ _ _ hj, bltN]
   by_cases hjl : j < lenH (prsN (splitS s ⟨#[10]⟩) i)
   ·rw [decide_eq_true hjl, if_pos hjl]; rfl
   ·rw [decide_eq_false hjl, if_neg hjl]; kernel_rfl
 ·have k : ¬ (i : Int) < (splitS s ⟨#[10]⟩).length := of_decide_eq_false k
  obtain rfl : i = (splitS s ⟨#[10]⟩).length := by omega
  exact ⟨⟨rfl, rfl⟩, rfl, rfl, fun _ _ => rfl⟩
def prsC : CT := C1 dStr (fun s => [s.size ≤ 1000000]) fun s => hostsL (prsH s)
theorem cxy_ok : cxy.ok Tryz.prog := (((cx0_ok.addC toA_ok).addC pa_ok).addC fld_ok).addC split_ok
theorem lines_each (s : ByteArray) (i : Nat) : ((linesS s).getD i ⟨#[]⟩).size ≤ s.size := getD_all (P := fun x : ByteArray => x.size ≤ s.size) (Nat.zero_le _) (fun x hx => splitS_each s 10 x hx) i
theorem prs_ok : CTok Tryz.prog 11 prsC := C1_ok cxy_ok Tryz.func11 rfl (by decide) dStr_eq.ok (by kernel_rfl) (fun _ => rfl) fun s hc => exv (prsV_eq s) (prs_v s (by have : s.size ≤ 1000000 := hc _ (.head _); omega) fun i => Nat.le_trans (lines_each s i) (hc _ (.head _)))
end Go.Proofs.YtkjcoehblekpdaaGreatDoorAv
namespace Go.Proofs.YtkjcoehblekpdaaGreatDoorAv
open Go Go.RowKit
abbrev sqH (q : Sq Hst) : XV := .fz q.n 17 fun i => hostX (q.g i)
def rH (l : List XV) : Hst := ⟨⟨byteD (xget l 0), byteD (xget l 1), byteD (xget l 2), byteD (xget l 3), byteD (xget l 4), byteD (xget l 5), byteD (xget l 6), byteD (xget l 7), byteD (xget l 8), byteD (xget l 9), byteD (xget l 10), byteD (xget l 11), byteD (xget l 12), byteD (xget l 13), byteD (xget l 14), byteD (xget l 15)⟩, match xget l 16 with
 | .fz n _ f => ⟨n, fun j => strD (xget (f j) 0)⟩
 | _ => ⟨0, fun _ => ⟨#[]⟩⟩⟩
def dHs : Dc (Sq Hst) := dSl 17 rH hostX dH
end Go.Proofs.YtkjcoehblekpdaaGreatDoorAv
namespace Go.Proofs.YtkjcoehblekpdaaGreatDoorAv
open Go Go.RowKit
def rvF (a : Nat → Int) (j : Nat) : ByteArray := if j < 4 then itoaB (a (15 - j)) else if j = 4 then ⟨#[105, 110, 45, 97, 100, 100, 114]⟩ else ⟨#[97, 114, 112, 97]⟩
def rvH (a : Nat → Int) (j : Nat) : ByteArray := if j % 2 = 0 then hexB (bits .and .u8 (a (15 - j / 2)) 15).toNat else hexB ((a (15 - j / 2)).fdiv (2 ^ 4)).toNat
def rvG (a : Nat → Int) (j : Nat) : ByteArray := if j < 32 then rvH a j else if j = 32 then ⟨#[105, 112, 54]⟩ else ⟨#[97, 114, 112, 97]⟩
def rev (a : Nat → Int) : ByteArray := if is4 a = true then ljF (rvF a) 6 else ljF (rvG a) 34
structure IR where
 i : Nat
def cxr : Cx := { cx0 with C := [(19, is4L), (25, itoaC), (27, fmtC), (26, ljnC)] }
theorem cxr_ok : cxr.ok Tryz.prog := (((cx0_ok.addC ljn_ok).addC fm_ok).addC itoa_ok).addC is4L_ok
def rvI (a : Nat → Int) : Inv where
 σ := IR
 S := fun x => ⟨[(1, .ptr 0 0 0 0), (2, XT ⟨#[]⟩), (3, .sl 1 1 0 (2 * x.i)), (5, XI (15 - (x.i : Int)))], [(0, .one 27 true (adr a).cells), (1, .vec 9 true (2 * x.i) 1 fun j => [XT (rvH a j)])], 2, false, []⟩
 inv := fun x => x.i ≤ 16
 μ := fun x => 16 - x.i
def rvE (a : Nat → Int) : Env := { loops := [(2, rvI a)], rolls := [(0, 5)], own := [(2, [(3, 9, 1)])] }
def rvV_a (a : Nat → Int) (i : Nat) :=
  (bif i.blt ((4 : Nat)) then bif i.blt ((3 : Nat)) then bif i.blt ((2 : Nat)) then bif i.blt ((1 : Nat)) then itoaB ([a (0 : Nat), a (1 : Nat), a (2 : Nat), a (3 : Nat), a (4 : Nat), a (5 : Nat), a (6 : Nat), a (7 : Nat), a (8 : Nat), a (9 : Nat), a (10 : Nat), a (11 : Nat), a (12 : Nat), a (13 : Nat), a (14 : Nat), a (15 : Nat)].getD ((15 : Nat)) (0 : Int)) else itoaB ([a (0 : Nat), a (1 : Nat), a (2 : Nat), a (3 : Nat), a (4 : Nat), a (5 : Nat), a (6 : Nat), a (7 : Nat), a (8 : Nat), a (9 : Nat), a (10 : Nat), a (11 : Nat), a (12 : Nat), a (13 : Nat), a (14 : Nat), a (15 : Nat)].getD ((14 : Nat)) (0 : Int)) else itoaB ([a (0 : Nat), a (1 : Nat), a (2 : Nat), a (3 : Nat), a (4 : Nat), a (5 : Nat), a (6 : Nat), a (7 : Nat), a (8 : Nat), a (9 : Nat), a (10 : Nat), a (11 : Nat), a (12 : Nat), a (13 : Nat), a (14 : Nat), a (15 : Nat)].getD ((13 : Nat)) (0 : Int)) else itoaB ([a (0 : Nat), a (1 : Nat), a (2 : Nat), a (3 : Nat), a (4 : Nat), a (5 : Nat), a (6 : Nat), a (7 : Nat), a (8 : Nat), a (9 : Nat), a (10 : Nat), a (11 : Nat), a (12 : Nat), a (13 : Nat), a (14 : Nat), a (15 : Nat)].getD ((12 : Nat)) (0 : Int)) else [{ data := #[(105 : UInt8), (110 : UInt8), (45 : UInt8), (97 : UInt8), (100 : UInt8), (100 : UInt8), (114 : UInt8)] : ByteArray }, { data := #[(97 : UInt8), (114 : UInt8), (112 : UInt8), (97 : UInt8)] : ByteArray }].getD (i - (4 : Nat)) { data := #[] : ByteArray })
def rvV_b (a : Nat → Int) (x : IR) :=
  ([a (0 : Nat), a (1 : Nat), a (2 : Nat), a (3 : Nat), a (4 : Nat), a (5 : Nat), a (6 : Nat), a (7 : Nat), a (8 : Nat), a (9 : Nat), a (10 : Nat), a (11 : Nat), a (12 : Nat), a (13 : Nat), a (14 : Nat), a (15 : Nat)].getD ((15 : Int) - (↑x.i : Int)).toNat (0 : Int))
def rvV_c (a : Nat → Int) (x : IR) (i : Nat) :=
  (bif i.blt ((2 : Nat) * x.i) then rvH a i else [{ data := #[(105 : UInt8), (112 : UInt8), (54 : UInt8)] : ByteArray }, { data := #[(97 : UInt8), (114 : UInt8), (112 : UInt8), (97 : UInt8)] : ByteArray }].getD (i - (2 : Nat) * x.i) { data := #[] : ByteArray })
def rvV (a : Nat → Int) : Prop :=
  ((is4 fun (i : Nat) => [a (0 : Nat), a (1 : Nat), a (2 : Nat), a (3 : Nat), a (4 : Nat), a (5 : Nat), a (6 : Nat), a (7 : Nat), a (8 : Nat), a (9 : Nat), a (10 : Nat), a (11 : Nat), a (12 : Nat), a (13 : Nat), a (14 : Nat), a (15 : Nat)].getD i (0 : Int)) = true → (0 : Int) ≤ (15 : Int) ∧ (15 : Int) < (↑(16 : Nat) : Int) ∧ (15 : Nat) < [a (0 : Nat), a (1 : Nat), a (2 : Nat), a (3 : Nat), a (4 : Nat), a (5 : Nat), a (6 : Nat), a (7 : Nat), a (8 : Nat), a (9 : Nat), a (10 : Nat), a (11 : Nat), a (12 : Nat), a (13 : Nat), a (14 : Nat), a (15 : Nat)].length ∧ in64 ([a (0 : Nat), a (1 : Nat), a (2 : Nat), a (3 : Nat), a (4 : Nat), a (5 : Nat), a (6 : Nat), a (7 : Nat), a (8 : Nat), a (9 : Nat), a (10 : Nat), a (11 : Nat), a (12 : Nat), a (13 : Nat), a (14 : Nat), a (15 : Nat)].getD ((15 : Nat)) (0 : Int)) ∧ (0 : Int) ≤ [a (0 : Nat), a (1 : Nat), a (2 : Nat), a (3 : Nat), a (4 : Nat), a (5 : Nat), a (6 : Nat), a (7 : Nat), a (8 : Nat), a (9 : Nat), a (10 : Nat), a (11 : Nat), a (12 : Nat), a (13 : Nat), a (14 : Nat), a (15 : Nat)].getD ((15 : Nat)) (0 : Int) ∧ [a (0 : Nat), a (1 : Nat), a (2 : Nat), a (3 : Nat), a (4 : Nat), a (5 : Nat), a (6 : Nat), a (7 : Nat), a (8 : Nat), a (9 : Nat), a (10 : Nat), a (11 : Nat), a (12 : Nat), a (13 : Nat), a (14 : Nat), a (15 : Nat)].getD ((15 : Nat)) (0 : Int) ≤ (1000000 : Int) ∧ (0 : Nat) = (0 : Nat) ∧ (16 : Nat) ≤ (140737488355328 : Nat) ∧ (1 : Nat) ≤ (140737488355328 : Nat) ∧ in64 ((15 : Int) - (1 : Int)) ∧ (0 : Int) ≤ (15 : Int) - (1 : Int) ∧ (15 : Int) - (1 : Int) < (↑(16 : Nat) : Int) ∧ (14 : Nat) < [a (0 : Nat), a (1 : Nat), a (2 : Nat), a (3 : Nat), a (4 : Nat), a (5 : Nat), a (6 : Nat), a (7 : Nat), a (8 : Nat), a (9 : Nat), a (10 : Nat), a (11 : Nat), a (12 : Nat), a (13 : Nat), a (14 : Nat), a (15 : Nat)].length ∧ in64 ([a (0 : Nat), a (1 : Nat), a (2 : Nat), a (3 : Nat), a (4 : Nat), a (5 : Nat), a (6 : Nat), a (7 : Nat), a (8 : Nat), a (9 : Nat), a (10 : Nat), a (11 : Nat), a (12 : Nat), a (13 : Nat), a (14 : Nat), a (15 : Nat)].getD ((14 : Nat)) (0 : Int)) ∧ (0 : Int) ≤ [a (0 : Nat), a (1 : Nat), a (2 : Nat), a (3 : Nat), a (4 : Nat), a (5 : Nat), a (6 : Nat), a (7 : Nat), a (8 : Nat), a (9 : Nat), a (10 : Nat), a (11 : Nat), a (12 : Nat), a (13 : Nat), a (14 : Nat), a (15 : Nat)].getD ((14 : Nat)) (0 : Int) ∧ [a (0 : Nat), a (1 : Nat), a (2 : Nat), a (3 : Nat), a (4 : Nat), a (5 : Nat), a (6 : Nat), a (7 : Nat), a (8 : Nat), a (9 : Nat), a (10 : Nat), a (11 : Nat), a (12 : Nat), a (13 : Nat), a (14 : Nat), a (15 : Nat)].getD ((14 : Nat)) (0 : Int) ≤ (1000000 : Int) ∧ (1 : Nat) = (1 : Nat) ∧ (32 : Nat) ≤ (140737488355328 : Nat) ∧ (2 : Nat) ≤ (140737488355328 : Nat) ∧ in64 ((15 : Int) - (1 : Int) - (1 : Int)) ∧ (0 : Int) ≤ (15 : Int) - (1 : Int) - (1 : Int) ∧ (15 : Int) - (1 : Int) - (1 : Int) < (↑(16 : Nat) : Int) ∧ (13 : Nat) < [a (0 : Nat), a (1 : Nat), a (2 : Nat), a (3 : Nat), a (4 : Nat), a (5 : Nat), a (6 : Nat), a (7 : Nat), a (8 : Nat), a (9 : Nat), a (10 : Nat), a (11 : Nat), a (12 : Nat), a (13 : Nat), a (14 : Nat), a (15 : Nat)].length ∧ in64 ([a (0 : Nat), a (1 : Nat), a (2 : Nat), a (3 : Nat), a (4 : Nat), a (5 : Nat), a (6 : Nat), a (7 : Nat), a (8 : Nat), a (9 : Nat), a (10 : Nat), a (11 : Nat), a (12 : Nat), a (13 : Nat), a (14 : Nat), a (15 : Nat)].getD ((13 : Nat)) (0 : Int)) ∧ (0 : Int) ≤ [a (0 : Nat), a (1 : Nat), a (2 : Nat), a (3 : Nat), a (4 : Nat), a (5 : Nat), a (6 : Nat), a (7 : Nat), a (8 : Nat), a (9 : Nat), a (10 : Nat), a (11 : Nat), a (12 : Nat), a (13 : Nat), a (14 : Nat), a (15 : Nat)].getD ((13 : Nat)) (0 : Int) ∧ [a (0 : Nat), a (1 : Nat), a (2 : Nat), a (3 : Nat), a (4 : Nat), a (5 : Nat), a (6 : Nat), a (7 : Nat), a (8 : Nat), a (9 : Nat), a (10 : Nat), a (11 : Nat), a (12 : Nat), a (13 : Nat), a (14 : Nat), a (15 : Nat)].getD ((13 : Nat)) (0 : Int) ≤ (1000000 : Int) ∧ (2 : Nat) = (2 : Nat) ∧ (48 : Nat) ≤ (140737488355328 : Nat) ∧ (3 : Nat) ≤ (140737488355328 : Nat) ∧ in64 ((15 : Int) - (1 : Int) - (1 : Int) - (1 : Int)) ∧ (0 : Int) ≤ (15 : Int) - (1 : Int) - (1 : Int) - (1 : Int) ∧ (15 : Int) - (1 : Int) - (1 : Int) - (1 : Int) < (↑(16 : Nat) : Int) ∧ (12 : Nat) < [a (0 : Nat), a (1 : Nat), a (2 : Nat), a (3 : Nat), a (4 : Nat), a (5 : Nat), a (6 : Nat), a (7 : Nat), a (8 : Nat), a (9 : Nat), a (10 : Nat), a (11 : Nat), a (12 : Nat), a (13 : Nat), a (14 : Nat), a (15 : Nat)].length ∧ in64 ([a (0 : Nat), a (1 : Nat), a (2 : Nat), a (3 : Nat), a (4 : Nat), a (5 : Nat), a (6 : Nat), a (7 : Nat), a (8 : Nat), a (9 : Nat), a (10 : Nat), a (11 : Nat), a (12 : Nat), a (13 : Nat), a (14 : Nat), a (15 : Nat)].getD ((12 : Nat)) (0 : Int)) ∧ (0 : Int) ≤ [a (0 : Nat), a (1 : Nat), a (2 : Nat), a (3 : Nat), a (4 : Nat), a (5 : Nat), a (6 : Nat), a (7 : Nat), a (8 : Nat), a (9 : Nat), a (10 : Nat), a (11 : Nat), a (12 : Nat), a (13 : Nat), a (14 : Nat), a (15 : Nat)].getD ((12 : Nat)) (0 : Int) ∧ [a (0 : Nat), a (1 : Nat), a (2 : Nat), a (3 : Nat), a (4 : Nat), a (5 : Nat), a (6 : Nat), a (7 : Nat), a (8 : Nat), a (9 : Nat), a (10 : Nat), a (11 : Nat), a (12 : Nat), a (13 : Nat), a (14 : Nat), a (15 : Nat)].getD ((12 : Nat)) (0 : Int) ≤ (1000000 : Int) ∧ (3 : Nat) = (3 : Nat) ∧ (64 : Nat) ≤ (140737488355328 : Nat) ∧ (4 : Nat) ≤ (140737488355328 : Nat) ∧ in64 ((15 : Int) - (1 : Int) - (1 : Int) - (1 : Int) - (1 : Int)) ∧ (4 : Nat) = (4 : Nat) ∧ (96 : Nat) ≤ (140737488355328 : Nat) ∧ (6 : Nat) ≤ (140737488355328 : Nat) ∧ (6 : Nat) = (6 : Nat) ∧ (∀ (i : Nat), i < (6 : Nat) → [XT (rvV_a a i)] = [XT (rvV_a a i)]) ∧ (6 : Nat) ≤ (3000 : Nat) ∧ (∀ (i : Nat), i < (6 : Nat) → (rvV_a a i).size ≤ (1000000 : Nat)) ∧ ljF (fun (i : Nat) => bif i.blt ((4 : Nat)) then bif i.blt ((3 : Nat)) then bif i.blt ((2 : Nat)) then bif i.blt ((1 : Nat)) then itoaB ([a (0 : Nat), a (1 : Nat), a (2 : Nat), a (3 : Nat), a (4 : Nat), a (5 : Nat), a (6 : Nat), a (7 : Nat), a (8 : Nat), a (9 : Nat), a (10 : Nat), a (11 : Nat), a (12 : Nat), a (13 : Nat), a (14 : Nat), a (15 : Nat)].getD ((15 : Nat)) (0 : Int)) else itoaB ([a (0 : Nat), a (1 : Nat), a (2 : Nat), a (3 : Nat), a (4 : Nat), a (5 : Nat), a (6 : Nat), a (7 : Nat), a (8 : Nat), a (9 : Nat), a (10 : Nat), a (11 : Nat), a (12 : Nat), a (13 : Nat), a (14 : Nat), a (15 : Nat)].getD ((14 : Nat)) (0 : Int)) else itoaB ([a (0 : Nat), a (1 : Nat), a (2 : Nat), a (3 : Nat), a (4 : Nat), a (5 : Nat), a (6 : Nat), a (7 : Nat), a (8 : Nat), a (9 : Nat), a (10 : Nat), a (11 : Nat), a (12 : Nat), a (13 : Nat), a (14 : Nat), a (15 : Nat)].getD ((13 : Nat)) (0 : Int)) else itoaB ([a (0 : Nat), a (1 : Nat), a (2 : Nat), a (3 : Nat), a (4 : Nat), a (5 : Nat), a (6 : Nat), a (7 : Nat), a (8 : Nat), a (9 : Nat), a (10 : Nat), a (11 : Nat), a (12 : Nat), a (13 : Nat), a (14 : Nat), a (15 : Nat)].getD ((12 : Nat)) (0 : Int)) else [{ data := #[(105 : UInt8), (110 : UInt8), (45 : UInt8), (97 : UInt8), (100 : UInt8), (100 : UInt8), (114 : UInt8)] : ByteArray }, { data := #[(97 : UInt8), (114 : UInt8), (112 : UInt8), (97 : UInt8)] : ByteArray }].getD (i - (4 : Nat)) { data := #[] : ByteArray }) ((6 : Nat)) = rev a) ∧ ((is4 fun (i : Nat) => [a (0 : Nat), a (1 : Nat), a (2 : Nat), a (3 : Nat), a (4 : Nat), a (5 : Nat), a (6 : Nat), a (7 : Nat), a (8 : Nat), a (9 : Nat), a (10 : Nat), a (11 : Nat), a (12 : Nat), a (13 : Nat), a (14 : Nat), a (15 : Nat)].getD i (0 : Int)) = false → (∃ (x : (rvI a).σ), x.i.le (16 : Nat) ∧ true = true ∧ XV.ptr (0 : Nat) (0 : Nat) (0 : Nat) (0 : Nat) = XV.ptr (0 : Nat) (0 : Nat) (0 : Nat) (0 : Nat) ∧ { data := #[] : ByteArray } = { data := #[] : ByteArray } ∧ XV.sl ((0 : Nat) + (1 : Nat)) (1 : Nat) (0 : Nat) (0 : Nat) = XV.sl (1 : Nat) (1 : Nat) (0 : Nat) ((2 : Nat) * x.i) ∧ (15 : Int) = (15 : Int) - (↑x.i : Int) ∧ (((27 : Nat) = (27 : TypeId) ∧ true = true) ∧ a (0 : Nat) = a (0 : Nat) ∧ a (1 : Nat) = a (1 : Nat) ∧ a (2 : Nat) = a (2 : Nat) ∧ a (3 : Nat) = a (3 : Nat) ∧ a (4 : Nat) = a (4 : Nat) ∧ a (5 : Nat) = a (5 : Nat) ∧ a (6 : Nat) = a (6 : Nat) ∧ a (7 : Nat) = a (7 : Nat) ∧ a (8 : Nat) = a (8 : Nat) ∧ a (9 : Nat) = a (9 : Nat) ∧ a (10 : Nat) = a (10 : Nat) ∧ a (11 : Nat) = a (11 : Nat) ∧ a (12 : Nat) = a (12 : Nat) ∧ a (13 : Nat) = a (13 : Nat) ∧ a (14 : Nat) = a (14 : Nat) ∧ a (15 : Nat) = a (15 : Nat) ∧ True) ∧ (((9 : Nat) = (9 : TypeId) ∧ true = true ∧ (1 : Nat) = (1 : Nat)) ∧ (0 : Nat) = (2 : Nat) * x.i ∧ ∀ (j : Nat), j < (0 : Nat) → [] = [XT (rvH a j)]) ∧ True) ∧ ∀ (x : IR), x.i.le (16 : Nat) → (decide ((15 : Int) - (↑x.i : Int) ≥ (0 : Int)) = true → (0 : Int) ≤ (15 : Int) - (↑x.i : Int) ∧ (15 : Int) - (↑x.i : Int) < (↑(16 : Nat) : Int) ∧ ((15 : Int) - (↑x.i : Int)).toNat < [a (0 : Nat), a (1 : Nat), a (2 : Nat), a (3 : Nat), a (4 : Nat), a (5 : Nat), a (6 : Nat), a (7 : Nat), a (8 : Nat), a (9 : Nat), a (10 : Nat), a (11 : Nat), a (12 : Nat), a (13 : Nat), a (14 : Nat), a (15 : Nat)].length ∧ in64 (bits BinOp.and IntKind.u8 (rvV_b a x) (15 : Int)) ∧ (0 : Int) ≤ bits BinOp.and IntKind.u8 (rvV_b a x) (15 : Int) ∧ bits BinOp.and IntKind.u8 (rvV_b a x) (15 : Int) < (65536 : Int) ∧ (16 : Int) = (16 : Int) ∧ (0 : Int) ≤ (15 : Int) - (↑x.i : Int) ∧ (15 : Int) - (↑x.i : Int) < (↑(16 : Nat) : Int) ∧ ((15 : Int) - (↑x.i : Int)).toNat < [a (0 : Nat), a (1 : Nat), a (2 : Nat), a (3 : Nat), a (4 : Nat), a (5 : Nat), a (6 : Nat), a (7 : Nat), a (8 : Nat), a (9 : Nat), a (10 : Nat), a (11 : Nat), a (12 : Nat), a (13 : Nat), a (14 : Nat), a (15 : Nat)].length ∧ in64 ((rvV_b a x).fdiv ((2 : Int) ^ (4 : Nat))) ∧ (0 : Int) ≤ (rvV_b a x).fdiv ((2 : Int) ^ (4 : Nat)) ∧ (rvV_b a x).fdiv ((2 : Int) ^ (4 : Nat)) < (65536 : Int) ∧ (16 : Int) = (16 : Int) ∧ (2 : Nat) * x.i = (2 : Nat) * x.i ∧ ((2 : Nat) * x.i + (2 : Nat)) * (16 : Nat) ≤ (140737488355328 : Nat) ∧ (2 : Nat) * x.i + (2 : Nat) ≤ (140737488355328 : Nat) ∧ in64 ((15 : Int) - (↑x.i : Int) - (1 : Int)) ∧ ∃ (x' : (rvI a).σ), x'.i.le (16 : Nat) ∧ (16 : Nat) - x'.i < (16 : Nat) - x.i ∧ true = true ∧ XV.ptr (0 : Nat) (0 : Nat) (0 : Nat) (0 : Nat) = XV.ptr (0 : Nat) (0 : Nat) (0 : Nat) (0 : Nat) ∧ { data := #[] : ByteArray } = { data := #[] : ByteArray } ∧ XV.sl (1 : Nat) (1 : Nat) (0 : Nat) ((2 : Nat) * x.i + (2 : Nat)) = XV.sl (1 : Nat) (1 : Nat) (0 : Nat) ((2 : Nat) * x'.i) ∧ (15 : Int) - (↑x.i : Int) - (1 : Int) = (15 : Int) - (↑x'.i : Int) ∧ (((27 : TypeId) = (27 : TypeId) ∧ true = true) ∧ a (0 : Nat) = a (0 : Nat) ∧ a (1 : Nat) = a (1 : Nat) ∧ a (2 : Nat) = a (2 : Nat) ∧ a (3 : Nat) = a (3 : Nat) ∧ a (4 : Nat) = a (4 : Nat) ∧ a (5 : Nat) = a (5 : Nat) ∧ a (6 : Nat) = a (6 : Nat) ∧ a (7 : Nat) = a (7 : Nat) ∧ a (8 : Nat) = a (8 : Nat) ∧ a (9 : Nat) = a (9 : Nat) ∧ a (10 : Nat) = a (10 : Nat) ∧ a (11 : Nat) = a (11 : Nat) ∧ a (12 : Nat) = a (12 : Nat) ∧ a (13 : Nat) = a (13 : Nat) ∧ a (14 : Nat) = a (14 : Nat) ∧ a (15 : Nat) = a (15 : Nat) ∧ True) ∧ (((9 : TypeId) = (9 : TypeId) ∧ true = true ∧ (1 : Nat) = (1 : Nat)) ∧ (2 : Nat) * x.i + (2 : Nat) = (2 : Nat) * x'.i ∧ ∀ (j : Nat), j < (2 : Nat) * x.i + (2 : Nat) → [XT (bif j.blt ((2 : Nat) * x.i) then rvH a j else [hexB (bits BinOp.and IntKind.u8 (rvV_b a x) (15 : Int)).toNat, hexB ((rvV_b a x).fdiv ((2 : Int) ^ (4 : Nat))).toNat].getD (j - (2 : Nat) * x.i) { data := #[] : ByteArray })] = [XT (rvH a j)]) ∧ True) ∧ (decide ((15 : Int) - (↑x.i : Int) ≥ (0 : Int)) = false → (2 : Nat) * x.i = (2 : Nat) * x.i ∧ ((2 : Nat) * x.i + (2 : Nat)) * (16 : Nat) ≤ (140737488355328 : Nat) ∧ (2 : Nat) * x.i + (2 : Nat) ≤ (140737488355328 : Nat) ∧ (2 : Nat) * x.i + (2 : Nat) = (2 : Nat) * x.i + (2 : Nat) ∧ (∀ (i : Nat), i < (2 : Nat) * x.i + (2 : Nat) → [XT (rvV_c a x i)] = [XT (rvV_c a x i)]) ∧ (2 : Nat) * x.i + (2 : Nat) ≤ (3000 : Nat) ∧ (∀ (i : Nat), i < (2 : Nat) * x.i + (2 : Nat) → (rvV_c a x i).size ≤ (1000000 : Nat)) ∧ ljF (fun (i : Nat) => bif i.blt ((2 : Nat) * x.i) then rvH a i else [{ data := #[(105 : UInt8), (112 : UInt8), (54 : UInt8)] : ByteArray }, { data := #[(97 : UInt8), (114 : UInt8), (112 : UInt8), (97 : UInt8)] : ByteArray }].getD (i - (2 : Nat) * x.i) { data := #[] : ByteArray }) ((2 : Nat) * x.i + (2 : Nat)) = rev a))
theorem rvV_eq (a : Nat → Int) : rvV a = (funC cxr Tryz.f14 (mkSc (rvE a) (bodyOf Tryz.f14)) [adr a] (XT (rev a))) := by kernel_rfl
end Go.Proofs.YtkjcoehblekpdaaGreatDoorAv
namespace Go.Proofs.YtkjcoehblekpdaaGreatDoorAv
open Go Go.RowKit
theorem sp_app (c : UInt8) (y : List UInt8) : ∀ x : List UInt8, split1 c (x ++ c :: y) = split1 c x ++ split1 c y
 | [] => by
  show split1 c (c :: y) = _
  conv => lhs; unfold split1
  rw [if_pos rfl]
  rfl
 | b :: x => by
  have ih := sp_app c y x
  have u : ∀ l : List UInt8, split1 c (b :: l) = if b = c then [] :: split1 c l else match split1 c l with | h :: t => (b :: h) :: t | [] => [[b]] := fun _ => rfl
  rw [List.cons_append, u, u]
  by_cases h : b = c
  ·rw [if_pos h, if_pos h, ih]; rfl
  ·rw [if_neg h, if_neg h, ih]
   cases hs : split1 c x with
   | nil => exact absurd hs (split1_ne c x)
   | cons p q => rfl
end Go.Proofs.YtkjcoehblekpdaaGreatDoorAv
namespace Go.Proofs.YtkjcoehblekpdaaGreatDoorAv
open Go Go.RowKit
theorem ljF_split (g : Nat → ByteArray) : ∀ n, (∀ i, i < n + 1 → (46 : UInt8) ∉ (g i).data.toList) → split1 46 (ljF g (n + 1)).data.toList = (List.range (n + 1)).map fun i => (g i).data.toList
 | 0, h => by
  have e : (ljF g 1).data.toList = (g 0).data.toList := by
   rw [ljF, if_neg (by omega), app_dt]
   rfl
  rw [e, sp_no 46 _ (h 0 (by omega))]
  rfl
 | n + 1, h => by
  have ih := ljF_split g n (fun i hi => h i (by omega))
  have e : (ljF g (n + 1 + 1)).data.toList = (ljF g (n + 1)).data.toList ++ 46 :: (g (n + 1)).data.toList := by
   rw [ljF, if_pos (by omega), app_dt, app_dt, List.append_assoc]
   rfl
  rw [e, sp_app, ih, sp_no 46 _ (h (n + 1) (by omega)), List.range_succ (n := n + 1), List.map_append]
  rfl
theorem ljF_splitS (g : Nat → ByteArray) (n : Nat) (h : ∀ i, i < n + 1 → (46 : UInt8) ∉ (g i).data.toList) : splitS (ljF g (n + 1)) ⟨#[46]⟩ = (List.range (n + 1)).map g := by
 rw [splitS_one, ljF_split g n h, List.map_map]
 apply List.map_congr_left
 intro i _
 exact data_mk8 _
theorem andB15 (x : Int) (h : 0 ≤ x ∧ x ≤ 255) : bits .and .u8 x 15 = ((x.toNat % 16 : Nat) : Int) := by
 have := u8_and15 (x := x) h.1 (by omega)
 rw [this]
 omega
theorem div16 (x : Int) (h : 0 ≤ x ∧ x ≤ 255) : x.fdiv (2 ^ 4) = ((x.toNat / 16 : Nat) : Int) := by
 rw [Int.fdiv_eq_ediv_of_nonneg _ (by decide)]
 have : (2 : Int) ^ 4 = 16 := rfl
 rw [this]
 omega
def nib (a : Nat → Int) (j : Nat) : Nat := if j % 2 = 0 then (a (15 - j / 2)).toNat % 16 else (a (15 - j / 2)).toNat / 16
theorem nib_lt (a : Nat → Int) (ha : b16 a) (j : Nat) : nib a j < 16 := by
 have := ha (15 - j / 2) (by omega)
 unfold nib
 split <;> omega
theorem rvH_nib (a : Nat → Int) (ha : b16 a) (j : Nat) : rvH a j = hexB (nib a j) := by
 have h := ha (15 - j / 2) (by omega)
 unfold rvH nib
 rw [andB15 _ h, div16 _ h]
 split <;> rw [Int.toNat_natCast]
theorem rvH_data (a : Nat → Int) (ha : b16 a) (j : Nat) : (rvH a j).data.toList = [hexd (nib a j)] := by
 rw [rvH_nib a ha j, hexB_data, hexL_1 _ (nib_lt a ha j)]
theorem rvG_no (a : Nat → Int) (ha : b16 a) (j : Nat) : (46 : UInt8) ∉ (rvG a j).data.toList := by
 unfold rvG
 split
 ·rw [rvH_data a ha j]
  have := (hexd_lt _ (nib_lt a ha j)).2.1
  simpa using fun e => this e.symm
 ·split <;> decide
theorem rvF_no (a : Nat → Int) (ha : b16 a) (j : Nat) : (46 : UInt8) ∉ (rvF a j).data.toList := by
 unfold rvF
 split
 ·exact (itoa_bb _ (ha (15 - j) (by omega))).2.1.1
 ·split <;> decide
def revL (a : Nat → Int) : List ByteArray := if is4 a = true then (List.range 6).map (rvF a) else (List.range 34).map (rvG a)
theorem rev_split (a : Nat → Int) (ha : b16 a) : splitS (rev a) ⟨#[46]⟩ = revL a := by
 unfold rev revL
 split
 ·exact ljF_splitS _ 5 fun i _ => rvF_no a ha i
 ·exact ljF_splitS _ 33 fun i _ => rvG_no a ha i
theorem hexd_inj : ∀ i j : Fin 16, hexd i.val = hexd j.val → i = j := by decide
theorem rev_inj (a b : Nat → Int) (ha : b16 a) (hb : b16 b) (h : rev a = rev b) (k : Nat) (hk : k < 16) : a k = b k := by
 have hl : revL a = revL b := by rw [← rev_split a ha, ← rev_split b hb, h]
 unfold revL at hl
 cases h4 : is4 a with
 | true =>
  rw [h4, if_pos rfl] at hl
  cases h5 : is4 b with
  | false =>
   rw [h5, if_neg (by decide)] at hl
   have := congrArg List.length hl
   simp at this
  | true =>
   rw [h5, if_pos rfl] at hl
   have key : ∀ j, j < 4 → a (15 - j) = b (15 - j) := fun j hj => by
    have e := congrArg (fun l => l[j]?) hl
    simp only [List.getElem?_map, List.getElem?_range (show j < 6 by omega), Option.map_some, Option.some.injEq] at e
    unfold rvF at e
    rw [if_pos hj, if_pos hj] at e
    have p1 := (itoa_bb _ (ha (15 - j) (by omega))).1
    have p2 := (itoa_bb _ (hb (15 - j) (by omega))).1
    rw [e, p2] at p1
    have := (Prod.mk.inj p1).2
    have r1 := ha (15 - j) (by omega)
    have r2 := hb (15 - j) (by omega)
    omega
   obtain ⟨x1, x2, x3⟩ := is4_at a h4
   obtain ⟨y1, y2, y3⟩ := is4_at b h5
   by_cases k10 : k < 10
   ·rw [x1 k k10, y1 k k10]
   ·by_cases k12 : k < 12
    ·have : k = 10 ∨ k = 11 := by omega
     rcases this with rfl | rfl
     ·rw [x2, y2]
     ·rw [x3, y3]
    ·have := key (15 - k) (by omega)
     rwa [show 15 - (15 - k) = k by omega] at this
 | false =>
  rw [h4, if_neg (by decide)] at hl
  cases h5 : is4 b with
  | true =>
   rw [h5, if_pos rfl] at hl
   have := congrArg List.length hl
   simp at this
  | false =>
   rw [h5, if_neg (by decide)] at hl
   have key : ∀ j, j < 32 → nib a j = nib b j := fun j hj => by
    have e := congrArg (fun l => l[j]?) hl
    simp only [List.getElem?_map, List.getElem?_range (show j < 34 by omega), Option.map_some, Option.some.injEq] at e
    unfold rvG at e
    rw [if_pos hj, if_pos hj] at e
    have e2 := congrArg (·.data.toList) e
    simp only [rvH_data a ha j, rvH_data b hb j, List.cons.injEq, and_true] at e2
    have := hexd_inj ⟨_, nib_lt a ha j⟩ ⟨_, nib_lt b hb j⟩ e2
    exact congrArg Fin.val this
   have n0 := key (2 * (15 - k)) (by omega)
   have n1 := key (2 * (15 - k) + 1) (by omega)
   unfold nib at n0 n1
   rw [if_pos (by omega), if_pos (by omega), show 15 - 2 * (15 - k) / 2 = k by omega] at n0
   rw [if_neg (by omega), if_neg (by omega), show 15 - (2 * (15 - k) + 1) / 2 = k by omega] at n1
   have r1 := ha k hk
   have r2 := hb k hk
   omega
theorem ljF_ext (g h : Nat → ByteArray) : ∀ n, (∀ i, i < n → g i = h i) → ljF g n = ljF h n
 | 0, _ => rfl
 | n + 1, e => by rw [ljF, ljF, ljF_ext g h n (fun i hi => e i (by omega)), e n (by omega)]
theorem rvH_size (a : Nat → Int) (j : Nat) : (rvH a j).size ≤ 4 := by
 unfold rvH
 split <;> exact hexB_size _
theorem itoa_sz (x : Int) (h : 0 ≤ x ∧ x ≤ 255) : (itoaB x).size ≤ 1000000 := by
 have := itoaB_byte ⟨x.toNat, by omega⟩
 have e : (((⟨x.toNat, by omega⟩ : Fin 256).val : Nat) : Int) = x := by
  show ((x.toNat : Nat) : Int) = x
  omega
 rw [e] at this
 omega
theorem rv_v (a : Nat → Int) (ha : b16 a) : rvV a := by
 have hb := g16b a ha
 unfold rvV rvV_c rvV_b rvV_a
 have el : (is4 fun i => [a 0, a 1, a 2, a 3, a 4, a 5, a 6, a 7, a 8, a 9, a 10, a 11, a 12, a 13, a 14, a 15].getD i 0) = is4 a := is4_ext fun k hk => get16 a k hk
 rw [el]
 have e6 : ∀ i, i < 6 → (bif i.blt 4 then bif i.blt 3 then bif i.blt 2 then bif i.blt 1 then itoaB ([a 0, a 1, a 2, a 3, a 4, a 5, a 6, a 7, a 8, a 9, a 10, a 11, a 12, a 13, a 14, a 15].getD 15 0) else itoaB ([a 0, a 1, a 2, a 3, a 4, a 5, a 6, a 7, a 8, a 9, a 10, a 11, a 12, a 13, a 14, a 15].getD 14 0) else itoaB ([a 0, a 1, a 2, a 3, a 4, a 5, a 6, a 7, a 8, a 9, a 10, a 11, a 12, a 13, a 14, a 15].getD 13 0) else itoaB ([a 0, a 1, a 2, a 3, a 4, a 5, a 6, a 7, a 8, a 9, a 10, a 11, a 12, a 13, a 14, a 15].getD 12 0) else [(⟨#[105, 110, 45, 97, 100, 100, 114]⟩ : ByteArray), ⟨#[97, 114, 112, 97]⟩].getD (i - 4) ⟨#[]⟩) = rvF a i := fun i hi => by
  match i, hi with
  | 0, _ => rfl
  | 1, _ => rfl
  | 2, _ => rfl
  | 3, _ => rfl
  | 4, _ => rfl
  | 5, _ => rfl
  | i + 6, hi => exact absurd hi (by omega)
 refine ⟨fun h4 => ?_, fun h4 => ⟨⟨⟨0⟩, Nat.zero_le _, rfl, rfl, rfl, rfl, rfl, ?_, ⟨⟨rfl, rfl, rfl⟩, rfl, fun j hj => absurd hj (by omega)⟩, trivial⟩, ?_⟩⟩
 ·have h4 : is4 a = true := h4
  refine ⟨by omega, by omega, by show 15 < 16; omega, in64_b (hb _), (hb _).1, Int.le_trans (hb _).2 (by decide), rfl, by omega, by omega, by unfold in64; omega, by omega, by omega, by show 14 < 16; omega, in64_b (hb _), (hb _).1, Int.le_trans (hb _).2 (by decide), rfl, by omega, by omega, by unfold in64; omega, by omega, by omega, by show 13 < 16; omega, in64_b (hb _), (hb _).1, Int.le_trans (hb _).2 (by decide), rfl, by omega, by omega, by unfold in64; omega, by omega, by omega, by show 12 < 16; omega, in64_b (hb _), (hb _).1, Int.le_trans (hb _).2 (by decide), rfl, by omega, by omega, by unfold in64; omega, rfl, by omega, by omega, rfl, fun _ _ => rfl, by omega, fun i hi => ?_, ?_⟩
  ·rw [e6 i hi]
   unfold rvF
   split
   ·exact itoa_sz _ (ha (15 - i) (by omega))
   ·split
    ·show 7 ≤ 1000000; omega
    ·show 4 ≤ 1000000; omega
  ·rw [ljF_ext _ (rvF a) 6 e6]
   unfold rev
   rw [if_pos h4]
 ·and_intros <;> first | with_reducible rfl | trivial
 ·rintro ⟨i⟩ hi
  have hi : i ≤ 16 := hi
  refine ⟨fun h => ?_, fun h => ?_⟩
  ·have h : (15 : Int) - (i : Int) ≥ 0 := of_decide_eq_true h
   have e : ((15 : Int) - (i : Int)).toNat = 15 - i := by omega
   have hx := ha (15 - i) (by omega)
   dsimp only
   rw [e, get16 a (15 - i) (by omega)]
   have b1 := andB15 _ hx
   have b2 := div16 _ hx
   have hl : (a (15 - i)).toNat < 256 := by omega
   refine ⟨by omega, by omega, by show 15 - i < 16; omega, by rw [b1]; unfold in64; omega, by rw [b1]; omega, by rw [b1]; omega, rfl, by omega, by omega, by show 15 - i < 16; omega, by rw [b2]; unfold in64; omega, by rw [b2]; omega, by rw [b2]; omega, rfl, rfl, by omega, by omega, by unfold in64; omega, ⟨i + 1⟩, by show i + 1 ≤ 16; omega, by show 16 - (i + 1) < 16 - i; omega, rfl, rfl, rfl, ?_, ?_, ?_, ⟨⟨rfl, rfl, rfl⟩, ?_, fun j hj => ?_⟩, trivial⟩
   ·show XV.sl 1 1 0 (2 * i + 2) = XV.sl 1 1 0 (2 * (i + 1))
    rw [show 2 * (i + 1) = 2 * i + 2 by omega]
   ·show (15 : Int) - i - 1 = 15 - ((i + 1 : Nat) : Int)
    omega
   ·and_intros <;> first | with_reducible rfl | trivial
   ·show 2 * i + 2 = 2 * (i + 1)
    omega
   ·refine congrArg (fun x => [XT x]) ?_
    rw [bltN]
    by_cases h1 : j < 2 * i
    ·rw [decide_eq_true h1, cond_true]
    ·rw [decide_eq_false h1, cond_false]
     unfold rvH
     by_cases h2 : j = 2 * i
     ·subst h2
      rw [Nat.sub_self, if_pos (by omega), show 15 - 2 * i / 2 = 15 - i by omega]
      rfl
     ·have h3 : j = 2 * i + 1 := by omega
      subst h3
      rw [show 2 * i + 1 - 2 * i = 1 by omega, if_neg (by omega), show 15 - (2 * i + 1) / 2 = 15 - i by omega]
      rfl
  ·have h : ¬ (15 : Int) - (i : Int) ≥ 0 := of_decide_eq_false h
   obtain rfl : i = 16 := by omega
   have eg : ∀ j, j < 2 * 16 + 2 → (bif j.blt (2 * 16) then rvH a j else [(⟨#[105, 112, 54]⟩ : ByteArray), ⟨#[97, 114, 112, 97]⟩].getD (j - 2 * 16) ⟨#[]⟩) = rvG a j := fun j hj => by
    rw [bltN]
    unfold rvG
    by_cases h1 : j < 2 * 16
    ·rw [decide_eq_true h1, cond_true, if_pos h1]
    ·rw [decide_eq_false h1, cond_false, if_neg h1]
     by_cases h2 : j = 32
     ·subst h2; rfl
     ·have h3 : j = 33 := by omega
      subst h3
      rfl
   refine ⟨rfl, by dsimp only; omega, by dsimp only; omega, rfl, fun _ _ => rfl, by dsimp only; omega, fun j hj => ?_, ?_⟩
   ·dsimp only at hj ⊢
    rw [eg j hj]
    unfold rvG
    have := rvH_size a j
    split
    ·omega
    ·split
     ·show 3 ≤ 1000000; omega
     ·show 4 ≤ 1000000; omega
   ·dsimp only
    rw [ljF_ext _ (rvG a) (2 * 16 + 2) eg]
    unfold rev
    rw [if_neg (by rw [show is4 a = false from h4]; decide)]
def revC : CT := C1 dAL (fun g => [b16 g]) fun g => XT (rev g)
theorem rev_ok : CTok Tryz.prog 14 revC := C1_ok cxr_ok Tryz.func14 rfl (by decide) dAL_eq.ok (by kernel_rfl) (fun _ => rfl) fun g hc => exv (rvV_eq g) (rv_v g (hc (b16 g) (.head _)))
end Go.Proofs.YtkjcoehblekpdaaGreatDoorAv
namespace Go.Proofs.YtkjcoehblekpdaaGreatDoorAv
open Go Go.RowKit
structure Rec where
 n : ByteArray
 k : Int
 ttl : Int
 a : A16
 t : ByteArray
 d : ByteArray
def recX (r : Rec) : List XV := [XT r.n, XI r.k, XI r.ttl, X8 r.a.x0, X8 r.a.x1, X8 r.a.x2, X8 r.a.x3, X8 r.a.x4, X8 r.a.x5, X8 r.a.x6, X8 r.a.x7, X8 r.a.x8, X8 r.a.x9, X8 r.a.x10, X8 r.a.x11, X8 r.a.x12, X8 r.a.x13, X8 r.a.x14, X8 r.a.x15, XT r.t, XT r.d]
def z16 : A16 := ⟨0, 0, 0, 0, 0, 0, 0, 0, 0, 0, 0, 0, 0, 0, 0, 0⟩
def dR : Rec := ⟨⟨#[]⟩, 0, 0, z16, ⟨#[]⟩, ⟨#[]⟩⟩
def lenR (l : List Rec) : Nat := l.length
def getR (l : List Rec) (i : Nat) : Rec := l.getD i dR
def recsL (l : List Rec) : XV := .fz (lenR l) 21 fun i => recX (getR l i)
def kdB (h : Hst) (k : Int) : Bool := k == 1 && is4 h.a.f || k == 28 && !is4 h.a.f
def fndO (h : Hst) (n : ByteArray) (k : Int) : List Rec :=
 if rev h.a.f = n then (if (k == 12) = true then [⟨n, k, 0, z16, h.q.g 0, ⟨#[]⟩⟩] else [])
 else if hasF h.q.g n h.q.n = true then (if kdB h k = true then [⟨n, k, 0, h.a, ⟨#[]⟩, ⟨#[]⟩⟩] else []) else []
def fndT (h : Hst) (n : ByteArray) : Bool := decide (rev h.a.f = n) || hasF h.q.g n h.q.n
def fndN (g : Nat → Hst) (n : ByteArray) (k : Int) : Nat → List Rec
 | 0 => []
 | i + 1 => fndN g n k i ++ fndO (g i) n k
def fndB (g : Nat → Hst) (n : ByteArray) : Nat → Bool
 | 0 => false
 | i + 1 => fndB g n i || fndT (g i) n
def fndR (q : Sq Hst) (n : ByteArray) (k : Int) : List Rec := (fndN q.g n k q.n).take 32
def cxf' : Cx := { cx0 with C := [(14, revC), (15, hasC), (19, is4L)] }
def fnI (q : Sq Hst) (n : ByteArray) (k : Int) : Inv where
 σ := IL
 S := fun x => ⟨[(1, XT n), (2, XI k), (8, .sl 0 21 0 (lenR (fndN q.g n k x.i))), (9, XB (fndB q.g n x.i)), (12, sqH q), (13, XI q.n), (14, XI x.i)], [(0, .vec 38 true (lenR (fndN q.g n k x.i)) 21 fun j => recX (getR (fndN q.g n k x.i) j))], 1, false, []⟩
 inv := fun x => x.i ≤ q.n
 μ := fun x => q.n - x.i
def fnE (q : Sq Hst) (n : ByteArray) (k : Int) : Env := { loops := [(0, fnI q n k)], own := [(2, [(8, 38, 21)])], frz := [(15, [8])] }
def fnV (q : Sq Hst) (n : ByteArray) (k : Int) : Prop :=
 (∃ (x : (fnI q n k).σ), x.i.le q.n ∧ true = true ∧ n = n ∧ k = k ∧ XV.sl 0 21 0 0 = XV.sl 0 21 0 (lenR (fndN q.g n k x.i)) ∧ false = fndB q.g n x.i ∧ (XV.fz q.n 17 fun (i : Nat) => (hostX (q.g i))) = sqH q ∧ (↑q.n : Int) = (↑q.n : Int) ∧ (0 : Int) = (↑x.i : Int) ∧ (((38 : Nat) = (38 : TypeId) ∧ true = true ∧ (21 : Nat) = (21 : Nat)) ∧ (0 : Nat) = lenR (fndN q.g n k x.i) ∧ ∀ (j : Nat), j < (0 : Nat) → [] = (recX (getR (fndN q.g n k x.i) j))) ∧ True) ∧ ∀ (x : IL), x.i.le q.n → (decide ((↑x.i : Int) < (↑q.n : Int)) = true → (0 : Int) ≤ (↑x.i : Int) ∧ (↑x.i : Int) < (↑q.n : Int) ∧ (b16 (A16.f (q.g (↑x.i : Int).toNat).a)) ∧ (decide ((rev (A16.f (q.g (↑x.i : Int).toNat).a)) = n) = true → ((k == (12 : Int)) = true → (0 : Int) ≤ (0 : Int) ∧ (0 : Int) < (↑(q.g (↑x.i : Int).toNat).q.n : Int) ∧ lenR (fndN q.g n k x.i) = lenR (fndN q.g n k x.i) ∧ (lenR (fndN q.g n k x.i) + (1 : Nat)) * (80 : Nat) ≤ (140737488355328 : Nat) ∧ lenR (fndN q.g n k x.i) + (1 : Nat) ≤ (140737488355328 : Nat) ∧ in64 ((↑x.i : Int) + (1 : Int)) ∧ ∃ (x' : (fnI q n k).σ), x'.i.le q.n ∧ q.n - x'.i < q.n - x.i ∧ true = true ∧ n = n ∧ k = k ∧ XV.sl 0 21 0 (lenR (fndN q.g n k x.i) + (1 : Nat)) = XV.sl 0 21 0 (lenR (fndN q.g n k x'.i)) ∧ true = fndB q.g n x'.i ∧ (XV.fz q.n 17 fun (i : Nat) => (hostX (q.g i))) = sqH q ∧ (↑q.n : Int) = (↑q.n : Int) ∧ (↑x.i : Int) + (1 : Int) = (↑x'.i : Int) ∧ (((38 : TypeId) = (38 : TypeId) ∧ true = true ∧ (21 : Nat) = (21 : Nat)) ∧ lenR (fndN q.g n k x.i) + (1 : Nat) = lenR (fndN q.g n k x'.i) ∧ ∀ (j : Nat), j < lenR (fndN q.g n k x.i) + (1 : Nat) → [XT (bif j.blt (lenR (fndN q.g n k x.i)) then (getR (fndN q.g n k x.i) j).n else n), Bool.rec (XI k) (XI ((getR (fndN q.g n k x.i) j).k)) (j.blt (lenR (fndN q.g n k x.i))), Bool.rec (XI 0) (XI ((getR (fndN q.g n k x.i) j).ttl)) (j.blt (lenR (fndN q.g n k x.i))), X8 (bif j.blt (lenR (fndN q.g n k x.i)) then (getR (fndN q.g n k x.i) j).a.x0 else (0 : Int)), X8 (bif j.blt (lenR (fndN q.g n k x.i)) then (getR (fndN q.g n k x.i) j).a.x1 else (0 : Int)), X8 (bif j.blt (lenR (fndN q.g n k x.i)) then (getR (fndN q.g n k x.i) j).a.x2 else (0 : Int)), X8 (bif j.blt (lenR (fndN q.g n k x.i)) then (getR (fndN q.g n k x.i) j).a.x3 else (0 : Int)), X8 (bif j.blt (lenR (fndN q.g n k x.i)) then (getR (fndN q.g n k x.i) j).a.x4 else (0 : Int)), X8 (bif j.blt (lenR (fndN q.g n k x.i)) then (getR (fndN q.g n k x.i) j).a.x5 else (0 : Int)), X8 (bif j.blt (lenR (fndN q.g n k x.i)) then (getR (fndN q.g n k x.i) j).a.x6 else (0 : Int)), X8 (bif j.blt (lenR (fndN q.g n k x.i)) then (getR (fndN q.g n k x.i) j).a.x7 else (0 : Int)), X8 (bif j.blt (lenR (fndN q.g n k x.i)) then (getR (fndN q.g n k x.i) j).a.x8 else (0 : Int)), X8 (bif j.blt (lenR (fndN q.g n k x.i)) then (getR (fndN q.g n k x.i) j).a.x9 else (0 : Int)), X8 (bif j.blt (lenR (fndN q.g n k x.i)) then (getR (fndN q.g n k x.i) j).a.x10 else (0 : Int)), X8 (bif j.blt (lenR (fndN q.g n k x.i)) then (getR (fndN q.g n k x.i) j).a.x11 else (0 : Int)), X8 (bif j.blt (lenR (fndN q.g n k x.i)) then (getR (fndN q.g n k x.i) j).a.x12 else (0 : Int)), X8 (bif j.blt (lenR (fndN q.g n k x.i)) then (getR (fndN q.g n k x.i) j).a.x13 else (0 : Int)), X8 (bif j.blt (lenR (fndN q.g n k x.i)) then (getR (fndN q.g n k x.i) j).a.x14 else (0 : Int)), X8 (bif j.blt (lenR (fndN q.g n k x.i)) then (getR (fndN q.g n k x.i) j).a.x15 else (0 : Int)), XT (bif j.blt (lenR (fndN q.g n k x.i)) then (getR (fndN q.g n k x.i) j).t else (q.g (↑x.i : Int).toNat).q.g ((0 : Nat))), XT (bif j.blt (lenR (fndN q.g n k x.i)) then (getR (fndN q.g n k x.i) j).d else ⟨#[]⟩)] = (recX (getR (fndN q.g n k x'.i) j))) ∧ True) ∧ ((k == (12 : Int)) = false → in64 ((↑x.i : Int) + (1 : Int)) ∧ ∃ (x' : (fnI q n k).σ), x'.i.le q.n ∧ q.n - x'.i < q.n - x.i ∧ true = true ∧ n = n ∧ k = k ∧ XV.sl 0 21 0 (lenR (fndN q.g n k x.i)) = XV.sl 0 21 0 (lenR (fndN q.g n k x'.i)) ∧ true = fndB q.g n x'.i ∧ (XV.fz q.n 17 fun (i : Nat) => (hostX (q.g i))) = sqH q ∧ (↑q.n : Int) = (↑q.n : Int) ∧ (↑x.i : Int) + (1 : Int) = (↑x'.i : Int) ∧ (((38 : TypeId) = (38 : TypeId) ∧ true = true ∧ (21 : Nat) = (21 : Nat)) ∧ lenR (fndN q.g n k x.i) = lenR (fndN q.g n k x'.i) ∧ ∀ (j : Nat), j < lenR (fndN q.g n k x.i) → (recX (getR (fndN q.g n k x.i) j)) = (recX (getR (fndN q.g n k x'.i) j))) ∧ True)) ∧ (decide ((rev (A16.f (q.g (↑x.i : Int).toNat).a)) = n) = false → (∀ (i : Nat), i < (q.g (↑x.i : Int).toNat).q.n → [XT ((q.g (↑x.i : Int).toNat).q.g i)] = [XT ((q.g (↑x.i : Int).toNat).q.g i)]) ∧ (q.g (↑x.i : Int).toNat).q.n ≤ (1000000 : Nat) ∧ (hasF (q.g (↑x.i : Int).toNat).q.g n (q.g (↑x.i : Int).toNat).q.n = true → (((k == (1 : Int) && is4 (A16.f (q.g (↑x.i : Int).toNat).a)) || k == (28 : Int) && !is4 (A16.f (q.g (↑x.i : Int).toNat).a)) = true → lenR (fndN q.g n k x.i) = lenR (fndN q.g n k x.i) ∧ (lenR (fndN q.g n k x.i) + (1 : Nat)) * (80 : Nat) ≤ (140737488355328 : Nat) ∧ lenR (fndN q.g n k x.i) + (1 : Nat) ≤ (140737488355328 : Nat) ∧ in64 ((↑x.i : Int) + (1 : Int)) ∧ ∃ (x' : (fnI q n k).σ), x'.i.le q.n ∧ q.n - x'.i < q.n - x.i ∧ true = true ∧ n = n ∧ k = k ∧ XV.sl 0 21 0 (lenR (fndN q.g n k x.i) + (1 : Nat)) = XV.sl 0 21 0 (lenR (fndN q.g n k x'.i)) ∧ true = fndB q.g n x'.i ∧ (XV.fz q.n 17 fun (i : Nat) => (hostX (q.g i))) = sqH q ∧ (↑q.n : Int) = (↑q.n : Int) ∧ (↑x.i : Int) + (1 : Int) = (↑x'.i : Int) ∧ (((38 : TypeId) = (38 : TypeId) ∧ true = true ∧ (21 : Nat) = (21 : Nat)) ∧ lenR (fndN q.g n k x.i) + (1 : Nat) = lenR (fndN q.g n k x'.i) ∧ ∀ (j : Nat), j < lenR (fndN q.g n k x.i) + (1 : Nat) → [XT (bif j.blt (lenR (fndN q.g n k x.i)) then (getR (fndN q.g n k x.i) j).n else n), Bool.rec (XI k) (XI ((getR (fndN q.g n k x.i) j).k)) (j.blt (lenR (fndN q.g n k x.i))), Bool.rec (XI 0) (XI ((getR (fndN q.g n k x.i) j).ttl)) (j.blt (lenR (fndN q.g n k x.i))), X8 (bif j.blt (lenR (fndN q.g n k x.i)) then (getR (fndN q.g n k x.i) j).a.x0 else (q.g (↑x.i : Int).toNat).a.x0), X8 (bif j.blt (lenR (fndN q.g n k x.i)) then (getR (fndN q.g n k x.i) j).a.x1 else (q.g (↑x.i : Int).toNat).a.x1), X8 (bif j.blt (lenR (fndN q.g n k x.i)) then (getR (fndN q.g n k x.i) j).a.x2 else (q.g (↑x.i : Int).toNat).a.x2), X8 (bif j.blt (lenR (fndN q.g n k x.i)) then (getR (fndN q.g n k x.i) j).a.x3 else (q.g (↑x.i : Int).toNat).a.x3), X8 (bif j.blt (lenR (fndN q.g n k x.i)) then (getR (fndN q.g n k x.i) j).a.x4 else (q.g (↑x.i : Int).toNat).a.x4), X8 (bif j.blt (lenR (fndN q.g n k x.i)) then (getR (fndN q.g n k x.i) j).a.x5 else (q.g (↑x.i : Int).toNat).a.x5), X8 (bif j.blt (lenR (fndN q.g n k x.i)) then (getR (fndN q.g n k x.i) j).a.x6 else (q.g (↑x.i : Int).toNat).a.x6), X8 (bif j.blt (lenR (fndN q.g n k x.i)) then (getR (fndN q.g n k x.i) j).a.x7 else (q.g (↑x.i : Int).toNat).a.x7), X8 (bif j.blt (lenR (fndN q.g n k x.i)) then (getR (fndN q.g n k x.i) j).a.x8 else (q.g (↑x.i : Int).toNat).a.x8), X8 (bif j.blt (lenR (fndN q.g n k x.i)) then (getR (fndN q.g n k x.i) j).a.x9 else (q.g (↑x.i : Int).toNat).a.x9), X8 (bif j.blt (lenR (fndN q.g n k x.i)) then (getR (fndN q.g n k x.i) j).a.x10 else (q.g (↑x.i : Int).toNat).a.x10), X8 (bif j.blt (lenR (fndN q.g n k x.i)) then (getR (fndN q.g n k x.i) j).a.x11 else (q.g (↑x.i : Int).toNat).a.x11), X8 (bif j.blt (lenR (fndN q.g n k x.i)) then (getR (fndN q.g n k x.i) j).a.x12 else (q.g (↑x.i : Int).toNat).a.x12), X8 (bif j.blt (lenR (fndN q.g n k x.i)) then (getR (fndN q.g n k x.i) j).a.x13 else (q.g (↑x.i : Int).toNat).a.x13), X8 (bif j.blt (lenR (fndN q.g n k x.i)) then (getR (fndN q.g n k x.i) j).a.x14 else (q.g (↑x.i : Int).toNat).a.x14), X8 (bif j.blt (lenR (fndN q.g n k x.i)) then (getR (fndN q.g n k x.i) j).a.x15 else (q.g (↑x.i : Int).toNat).a.x15), XT (bif j.blt (lenR (fndN q.g n k x.i)) then (getR (fndN q.g n k x.i) j).t else ⟨#[]⟩), XT (bif j.blt (lenR (fndN q.g n k x.i)) then (getR (fndN q.g n k x.i) j).d else ⟨#[]⟩)] = (recX (getR (fndN q.g n k x'.i) j))) ∧ True) ∧ (((k == (1 : Int) && is4 (A16.f (q.g (↑x.i : Int).toNat).a)) || k == (28 : Int) && !is4 (A16.f (q.g (↑x.i : Int).toNat).a)) = false → in64 ((↑x.i : Int) + (1 : Int)) ∧ ∃ (x' : (fnI q n k).σ), x'.i.le q.n ∧ q.n - x'.i < q.n - x.i ∧ true = true ∧ n = n ∧ k = k ∧ XV.sl 0 21 0 (lenR (fndN q.g n k x.i)) = XV.sl 0 21 0 (lenR (fndN q.g n k x'.i)) ∧ true = fndB q.g n x'.i ∧ (XV.fz q.n 17 fun (i : Nat) => (hostX (q.g i))) = sqH q ∧ (↑q.n : Int) = (↑q.n : Int) ∧ (↑x.i : Int) + (1 : Int) = (↑x'.i : Int) ∧ (((38 : TypeId) = (38 : TypeId) ∧ true = true ∧ (21 : Nat) = (21 : Nat)) ∧ lenR (fndN q.g n k x.i) = lenR (fndN q.g n k x'.i) ∧ ∀ (j : Nat), j < lenR (fndN q.g n k x.i) → (recX (getR (fndN q.g n k x.i) j)) = (recX (getR (fndN q.g n k x'.i) j))) ∧ True)) ∧ (hasF (q.g (↑x.i : Int).toNat).q.g n (q.g (↑x.i : Int).toNat).q.n = false → in64 ((↑x.i : Int) + (1 : Int)) ∧ ∃ (x' : (fnI q n k).σ), x'.i.le q.n ∧ q.n - x'.i < q.n - x.i ∧ true = true ∧ n = n ∧ k = k ∧ XV.sl 0 21 0 (lenR (fndN q.g n k x.i)) = XV.sl 0 21 0 (lenR (fndN q.g n k x'.i)) ∧ fndB q.g n x.i = fndB q.g n x'.i ∧ (XV.fz q.n 17 fun (i : Nat) => (hostX (q.g i))) = sqH q ∧ (↑q.n : Int) = (↑q.n : Int) ∧ (↑x.i : Int) + (1 : Int) = (↑x'.i : Int) ∧ (((38 : TypeId) = (38 : TypeId) ∧ true = true ∧ (21 : Nat) = (21 : Nat)) ∧ lenR (fndN q.g n k x.i) = lenR (fndN q.g n k x'.i) ∧ ∀ (j : Nat), j < lenR (fndN q.g n k x.i) → (recX (getR (fndN q.g n k x.i) j)) = (recX (getR (fndN q.g n k x'.i) j))) ∧ True))) ∧ (decide ((↑x.i : Int) < (↑q.n : Int)) = false → lenR (fndN q.g n k x.i) = lenR (fndN q.g n k x.i) ∧ (0 : Int) ≤ (0 : Int) ∧ (0 : Int) ≤ imin (↑(lenR (fndN q.g n k x.i)) : Int) 32 ∧ imin (↑(lenR (fndN q.g n k x.i)) : Int) 32 ≤ (↑(lenR (fndN q.g n k x.i)) : Int) ∧ ((21 : Nat) = (21 : Nat) ∧ (imin (↑(lenR (fndN q.g n k x.i)) : Int) 32 - (0 : Int)).toNat = lenR (fndR q n k) ∧ ∀ (j : Nat), j < (imin (↑(lenR (fndN q.g n k x.i)) : Int) 32 - (0 : Int)).toNat → (recX (getR (fndN q.g n k x.i) ((0 : Nat) + j))) = (recX (getR (fndR q n k) j))) ∧ fndB q.g n x.i = fndB q.g n q.n ∧ True)
theorem fnV_eq (q : Sq Hst) (n : ByteArray) (k : Int) : fnV q n k = (funC cxf' Tryz.f12 (mkSc (fnE q n k) (bodyOf Tryz.f12)) [sqH q, XT n, XI k] (.tup [recsL (fndR q n k), XB (fndB q.g n q.n)])) := by kernel_rfl
theorem fndO_len (h : Hst) (n : ByteArray) (k : Int) : (fndO h n k).length ≤ 1 := by
 unfold fndO
 split
 ·split <;> simp
 ·split
  ·split <;> simp
  ·simp
theorem fndN_len (g : Nat → Hst) (n : ByteArray) (k : Int) : ∀ i, lenR (fndN g n k i) ≤ i
 | 0 => Nat.le_refl _
 | i + 1 => by
  have ih := fndN_len g n k i
  have h1 := fndO_len (g i) n k
  unfold lenR at *
  rw [fndN, List.length_append]
  omega
theorem getR_app (o : List Rec) (h : Rec) (j : Nat) (hj : j < lenR o + 1) : getR (o ++ [h]) j = if j < lenR o then getR o j else h := by
 unfold getR lenR at *
 split
 ·rename_i k
  rw [List.getD_eq_getElem?_getD, List.getD_eq_getElem?_getD, List.getElem?_append_left k]
 ·rename_i k
  rw [List.getD_eq_getElem?_getD, List.getElem?_append_right (by omega), show j - o.length = 0 by omega]
  rfl
theorem lenR_app (o : List Rec) (h : Rec) : lenR o + 1 = lenR (o ++ [h]) := by
 unfold lenR
 rw [List.length_append, List.length_singleton]
set_option maxHeartbeats 2000000 in
theorem fn_v (q : Sq Hst) (n : ByteArray) (k : Int) (hn : q.n ≤ 1000000) (hq : ∀ i, i < q.n → b16 (q.g i).a.f ∧ 1 ≤ (q.g i).q.n ∧ (q.g i).q.n ≤ 1000000) : fnV q n k := by
 unfold fnV
 refine ⟨⟨⟨0⟩, Nat.zero_le _, rfl, rfl, rfl, rfl, rfl, rfl, rfl, rfl, ⟨⟨rfl, rfl, rfl⟩, rfl, fun j hj => absurd hj (Nat.not_lt_zero _)⟩, trivial⟩, ?_⟩
 rintro ⟨i⟩ hi
 have hi : i ≤ q.n := hi
 dsimp only
 have hl := fndN_len q.g n k i
 refine ⟨fun h => ?_, fun h => ?_⟩
 ·have h : (i : Int) < q.n := of_decide_eq_true h
  rw [Int.toNat_natCast]
  obtain ⟨g1, g2, g3⟩ := hq i (by omega)
  have hs : fndN q.g n k (i + 1) = fndN q.g n k i ++ fndO (q.g i) n k := rfl
  have hb : fndB q.g n (i + 1) = (fndB q.g n i || fndT (q.g i) n) := rfl
  have no : fndO (q.g i) n k = [] → fndN q.g n k (i + 1) = fndN q.g n k i := fun e => by rw [hs, e, List.append_nil]
  refine ⟨by omega, h, g1, fun h1 => ?_, fun h1 => ?_⟩
  ·have h1' : rev (q.g i).a.f = n := of_decide_eq_true h1
   have ht : true = fndB q.g n (i + 1) := by rw [hb, fndT, h1, Bool.true_or, Bool.or_true]
   refine ⟨fun h2 => ?_, fun h2 => ?_⟩
   ·have e : fndN q.g n k (i + 1) = fndN q.g n k i ++ [⟨n, k, 0, z16, (q.g i).q.g 0, ⟨#[]⟩⟩] := by rw [hs, fndO, if_pos h1', if_pos h2]
    have el : lenR (fndN q.g n k i) + 1 = lenR (fndN q.g n k (i + 1)) := by rw [e]; exact lenR_app _ _
    refine ⟨by decide, by omega, rfl, by omega, by omega, by unfold in64; omega, ⟨i + 1⟩, (show i + 1 ≤ q.n by omega), (show q.n - (i + 1) < q.n - i by omega), rfl, rfl, rfl, congrArg (XV.sl 0 21 0) el, ht, rfl, rfl, rfl, ⟨⟨rfl, rfl, rfl⟩, el, fun j hj => ?_⟩, trivial⟩
    show _ = recX (getR (fndN q.g n k (i + 1)) j)
    rw [e, getR_app _ _ _ hj, bltN]
    by_cases hjl : j < lenR (fndN q.g n k i)
    ·rw [decide_eq_true hjl, if_pos hjl]; kernel_rfl
    ·rw [decide_eq_false hjl, if_neg hjl]; kernel_rfl
   ·have e := no (by rw [fndO, if_pos h1', if_neg (by rw [h2]; decide)])
    exact ⟨by unfold in64; omega, ⟨i + 1⟩, (show i + 1 ≤ q.n by omega), (show q.n - (i + 1) < q.n - i by omega), rfl, rfl, rfl, congrArg (fun o => XV.sl 0 21 0 (lenR o)) e.symm, ht, rfl, rfl, rfl, ⟨⟨rfl, rfl, rfl⟩, congrArg lenR e.symm, fun j _ => congrArg (fun o => recX (getR o j)) e.symm⟩, trivial⟩
  ·have h1' : ¬ rev (q.g i).a.f = n := of_decide_eq_false h1
   refine ⟨fun _ _ => rfl, g3, fun h2 => ?_, fun h2 => ?_⟩
   ·have ht : true = fndB q.g n (i + 1) := by rw [hb, fndT, h2, Bool.or_true, Bool.or_true]
    refine ⟨fun h3 => ?_, fun h3 => ?_⟩
    ·have e : fndN q.g n k (i + 1) = fndN q.g n k i ++ [⟨n, k, 0, (q.g i).a, ⟨#[]⟩, ⟨#[]⟩⟩] := by rw [hs, fndO, if_neg h1', if_pos h2, if_pos (show kdB (q.g i) k = true from h3)]
     have el : lenR (fndN q.g n k i) + 1 = lenR (fndN q.g n k (i + 1)) := by rw [e]; exact lenR_app _ _
     refine ⟨rfl, by omega, by omega, by unfold in64; omega, ⟨i + 1⟩, (show i + 1 ≤ q.n by omega), (show q.n - (i + 1) < q.n - i by omega), rfl, rfl, rfl, congrArg (XV.sl 0 21 0) el, ht, rfl, rfl, rfl, ⟨⟨rfl, rfl, rfl⟩, el, fun j hj => ?_⟩, trivial⟩
     show _ = recX (getR (fndN q.g n k (i + 1)) j)
     rw [e, getR_app _ _ _ hj, bltN]
     by_cases hjl : j < lenR (fndN q.g n k i)
     ·rw [decide_eq_true hjl, if_pos hjl]; kernel_rfl
     ·rw [decide_eq_false hjl, if_neg hjl]; kernel_rfl
    ·have e := no (by rw [fndO, if_neg h1', if_pos h2, if_neg (by rw [show kdB (q.g i) k = false from h3]; decide)])
     exact ⟨by unfold in64; omega, ⟨i + 1⟩, (show i + 1 ≤ q.n by omega), (show q.n - (i + 1) < q.n - i by omega), rfl, rfl, rfl, congrArg (fun o => XV.sl 0 21 0 (lenR o)) e.symm, ht, rfl, rfl, rfl, ⟨⟨rfl, rfl, rfl⟩, congrArg lenR e.symm, fun j _ => congrArg (fun o => recX (getR o j)) e.symm⟩, trivial⟩
   ·have e := no (by rw [fndO, if_neg h1', if_neg (by rw [h2]; decide)])
    have ht : fndB q.g n i = fndB q.g n (i + 1) := by rw [hb, fndT, h1, h2, Bool.or_false, Bool.or_false]
    exact ⟨by unfold in64; omega, ⟨i + 1⟩, (show i + 1 ≤ q.n by omega), (show q.n - (i + 1) < q.n - i by omega), rfl, rfl, rfl, congrArg (fun o => XV.sl 0 21 0 (lenR o)) e.symm, ht, rfl, rfl, rfl, ⟨⟨rfl, rfl, rfl⟩, congrArg lenR e.symm, fun j _ => congrArg (fun o => recX (getR o j)) e.symm⟩, trivial⟩
 ·have h : ¬ (i : Int) < q.n := of_decide_eq_false h
  obtain rfl : i = q.n := by omega
  have hm : imin ((lenR (fndN q.g n k q.n) : Nat) : Int) 32 = ((min (lenR (fndN q.g n k q.n)) 32 : Nat) : Int) := by unfold imin; split <;> omega
  have hr : lenR (fndR q n k) = min (lenR (fndN q.g n k q.n)) 32 := by
   unfold lenR fndR
   rw [List.length_take, Nat.min_comm]
  rw [hm]
  refine ⟨rfl, by decide, by omega, by omega, ⟨rfl, by rw [hr]; omega, fun j hj => ?_⟩, rfl, trivial⟩
  show recX (getR (fndN q.g n k q.n) (0 + j)) = recX (getR (fndR q n k) j)
  rw [Nat.zero_add]
  have : getR (fndR q n k) j = getR (fndN q.g n k q.n) j := by
   unfold getR fndR
   rw [List.getD_eq_getElem?_getD, List.getD_eq_getElem?_getD, List.getElem?_take_of_lt (by omega)]
  rw [this]
def fnC : CT := C3 dHs dStr dInt (fun q _ _ => [q.n ≤ 1000000, ∀ i, i < q.n → b16 (q.g i).a.f ∧ 1 ≤ (q.g i).q.n ∧ (q.g i).q.n ≤ 1000000]) fun q n k => .tup [recsL (fndR q n k), XB (fndB q.g n q.n)]
theorem fn_ok : CTok Tryz.prog 12 fnC := C3_ok ((cx0_ok.addC is4L_ok).addC has_ok |>.addC rev_ok) Tryz.func12 rfl (by decide) dSl_ok dStr_eq.ok dInt_eq.ok (by kernel_rfl) (fun _ _ _ => rfl) fun q n k hc => exv (fnV_eq q n k) (fn_v q n k (hc _ (.head _)) (hc _ (.tail _ (.head _))))
end Go.Proofs.YtkjcoehblekpdaaGreatDoorAv
namespace Go.Proofs.YtkjcoehblekpdaaGreatDoorAv
open Go Go.RowKit
theorem prsN_mem (l : List ByteArray) : ∀ i, ∀ h ∈ prsN l i, ∃ j, j < i ∧ lnOk (words (l.getD j ⟨#[]⟩)) = true ∧ h = lnH (words (l.getD j ⟨#[]⟩))
 | 0, h, hm => by cases hm
 | i + 1, h, hm => by
  unfold prsN putH at hm
  split at hm
  ·rename_i k
   rcases List.mem_append.1 hm with hm | hm
   ·obtain ⟨j, hj, e⟩ := prsN_mem l i h hm
    exact ⟨j, by omega, e⟩
   ·exact ⟨i, by omega, k.2, List.mem_singleton.1 hm⟩
  ·obtain ⟨j, hj, e⟩ := prsN_mem l i h hm
   exact ⟨j, by omega, e⟩
theorem lnH_b (w : List ByteArray) : b16 (lnH w).a.f := b16_l (parA_b _)
structure Red (n : Nat) (h : Hst) : Prop where
 b : b16 h.a.f
 one : 1 ≤ h.q.n
 le : h.q.n ≤ n
 out : ∀ i, i < h.q.n → ∃ x, (toA x).2 = 0 ∧ h.q.g i = (toA x).1
theorem lnH_red (n : Nat) (w : List ByteArray) (h1 : lnOk w = true) (hl : w.length ≤ n + 1) : Red n (lnH w) := by
 unfold lnOk at h1
 rw [Bool.and_eq_true, Bool.and_eq_true, decide_eq_true_eq, decide_eq_true_eq] at h1
 obtain ⟨h1, h2, h3⟩ := h1
 have e : (lnH w).q.n = w.length - 1 := rfl
 refine ⟨lnH_b _, by rw [e]; omega, by rw [e]; omega, fun i hi => ?_⟩
 rw [e] at hi
 have h4 := oksN_le _ _ (i + 1) (by omega) h3
 rw [oksN, Bool.and_eq_true, decide_eq_true_eq] at h4
 exact ⟨_, h4.2, rfl⟩
theorem prsH_red (s : ByteArray) : ∀ h ∈ prsH s, Red s.size h := fun h hm => by
 obtain ⟨j, hj, h1, rfl⟩ := prsN_mem _ _ h hm
 have hsz : ((linesS s).getD j ⟨#[]⟩).size ≤ s.size := getD_all (P := fun x : ByteArray => x.size ≤ s.size) (Nat.zero_le _) (fun x hx => splitS_each s 10 x hx) j
 have hl := words_len ((linesS s).getD j ⟨#[]⟩)
 exact lnH_red _ _ h1 (by omega)
theorem getH_mem {l : List Hst} {i : Nat} (h : i < lenH l) : getH l i ∈ l := by
 unfold getH lenH at *
 rw [List.getD_eq_getElem?_getD, List.getElem?_eq_getElem h]
 exact List.getElem_mem _
theorem prsH_at (s : ByteArray) (i : Nat) (h : i < lenH (prsH s)) : Red s.size (getH (prsH s) i) := prsH_red s _ (getH_mem h)
theorem prsH_len (s : ByteArray) : lenH (prsH s) ≤ 64 := lenH_prsN _ _
theorem prsH_fn (s : ByteArray) (hs : s.size ≤ 1000000) : ∀ i, i < lenH (prsH s) → b16 (getH (prsH s) i).a.f ∧ 1 ≤ (getH (prsH s) i).q.n ∧ (getH (prsH s) i).q.n ≤ 1000000 := fun i hi => by
 have h := prsH_at s i hi
 exact ⟨h.b, h.one, by have := h.le; omega⟩
def fndS (l : List Hst) : Sq Hst := ⟨lenH l, getH l⟩
def cx1 : Cx := { cx0 with C := [(11, prsC), (12, fnC), (19, is4L), (20, dotC)] }
theorem cx1_ok : cx1.ok Tryz.prog := (((cx0_ok.addC dot_ok).addC is4L_ok).addC fn_ok).addC prs_ok
def hfitV_a :=
 (prsH ⟨#[49, 50, 55, 46, 48, 46, 48, 46, 49, 9, 108, 111, 99, 97, 108, 104, 111, 115, 116, 32, 108, 111, 32, 35, 32, 120]⟩)
def hfitV_b :=
 (getR (fndR { n := lenH hfitV_a, g := getH hfitV_a : Sq Hst } ⟨#[108, 111]⟩ 1) ((0 : Nat)))
def hfitV_c :=
 (↑(lenR (fndR { n := lenH hfitV_a, g := fun (i : Nat) => rH ((fun (i : Nat) => hostX (getH hfitV_a i)) i) : Sq Hst } ⟨#[108, 111]⟩ 1)) : Int)
def hfitV  : Prop :=
 (26 : Nat) ≤ (1000000 : Nat) ∧ (∀ (i : Nat), i < lenH hfitV_a → (hostX (getH hfitV_a i)) = (hostX (getH hfitV_a i))) ∧ lenH hfitV_a ≤ (1000000 : Nat) ∧ (∀ (i : Nat), i < lenH hfitV_a → b16 (getH hfitV_a i).a.f ∧ (1 : Nat) ≤ (getH hfitV_a i).q.n ∧ (getH hfitV_a i).q.n ≤ (1000000 : Nat)) ∧ (((↑(lenH hfitV_a) : Int) == (1 : Int) && hfitV_c == (1 : Int) && fndB (getH hfitV_a) ⟨#[108, 111]⟩ (lenH hfitV_a)) = true → (0 : Int) ≤ (0 : Int)) ∧ (((↑(lenH hfitV_a) : Int) == (1 : Int) && hfitV_c == (1 : Int) && fndB (getH hfitV_a) ⟨#[108, 111]⟩ (lenH hfitV_a)) = true → (0 : Int) < hfitV_c) ∧ (((↑(lenH hfitV_a) : Int) == (1 : Int) && hfitV_c == (1 : Int) && fndB (getH hfitV_a) ⟨#[108, 111]⟩ (lenH hfitV_a) && is4 fun (i : Nat) => [hfitV_b.a.x0, hfitV_b.a.x1, hfitV_b.a.x2, hfitV_b.a.x3, hfitV_b.a.x4, hfitV_b.a.x5, hfitV_b.a.x6, hfitV_b.a.x7, hfitV_b.a.x8, hfitV_b.a.x9, hfitV_b.a.x10, hfitV_b.a.x11, hfitV_b.a.x12, hfitV_b.a.x13, hfitV_b.a.x14, hfitV_b.a.x15].getD i 0) && cntB ⟨#[97, 46, 98]⟩ ⟨#[46]⟩ == (1 : Int)) = true
theorem hfitV_eq  : hfitV  = (funC cx1 Tryz.f9 .nil [] (XB true)) := by kernel_rfl
def fitT : ByteArray := ⟨#[49, 50, 55, 46, 48, 46, 48, 46, 49, 9, 108, 111, 99, 97, 108, 104, 111, 115, 116, 32, 108, 111, 32, 35, 32, 120]⟩
theorem hfit_d : lenH (prsH fitT) = 1 ∧ lenR (fndR (fndS (prsH fitT)) ⟨#[108, 111]⟩ 1) = 1 ∧ fndB (getH (prsH fitT)) ⟨#[108, 111]⟩ (lenH (prsH fitT)) = true ∧ is4 (getR (fndR (fndS (prsH fitT)) ⟨#[108, 111]⟩ 1) 0).a.f = true ∧ cntB ⟨#[97, 46, 98]⟩ ⟨#[46]⟩ = 1 := by decide +kernel
theorem hfit_v : hfitV := by
 unfold hfitV hfitV_c hfitV_b hfitV_a
 obtain ⟨h1, h2, h3, h4, h5⟩ := hfit_d
 have h6 := prsH_fn fitT (by decide)
 refine ⟨by decide, fun _ _ => rfl, ?_, h6, fun _ => by decide, fun _ => ?_, ?_⟩
 ·show lenH (prsH fitT) ≤ 1000000
  rw [h1]; decide
 ·show (0 : Int) < (lenR (fndR (fndS (prsH fitT)) ⟨#[108, 111]⟩ 1) : Int)
  rw [h2]; decide
 ·show (((((lenH (prsH fitT) : Nat) : Int) == 1 && ((lenR (fndR (fndS (prsH fitT)) ⟨#[108, 111]⟩ 1) : Nat) : Int) == 1 && fndB (getH (prsH fitT)) ⟨#[108, 111]⟩ (lenH (prsH fitT)) && is4 (getR (fndR (fndS (prsH fitT)) ⟨#[108, 111]⟩ 1) 0).a.f) && cntB ⟨#[97, 46, 98]⟩ ⟨#[46]⟩ == 1)) = true
  rw [h3, h1, h2, h4, h5]
  rfl
def hfitC : CT := C0 [] (XB true)
theorem hfit_ok : CTok Tryz.prog 9 hfitC := C0_ok cx1_ok Tryz.func9 rfl (by decide) rfl fun _ => exv hfitV_eq hfit_v
def ligV (s : ByteArray) : Prop :=
 decide ((↑s.size : Int) ≤ (2000 : Int)) = decide ((↑s.size : Int) ≤ (2000 : Int))
theorem ligV_eq (s : ByteArray) : ligV s = (funC cx0 Tryz.f10 .nil [XT s] (XB (decide ((s.size : Int) ≤ 2000)))) := by kernel_rfl
theorem lig_v (s : ByteArray) : ligV s := rfl
def ligC : CT := C1 dStr (fun _ => []) fun s => XB (decide ((s.size : Int) ≤ 2000))
theorem lig_ok : CTok Tryz.prog 10 ligC := C1_ok cx0_ok Tryz.func10 rfl (by decide) dStr_eq.ok (by kernel_rfl) (fun _ => rfl) fun s _ => exv (ligV_eq s) (lig_v s)
end Go.Proofs.YtkjcoehblekpdaaGreatDoorAv
namespace Go.Proofs.YtkjcoehblekpdaaGreatDoorAv
open Go Go.RowKit
theorem getR_mem {l : List Rec} {i : Nat} (h : i < lenR l) : getR l i ∈ l := by
 unfold getR lenR at *
 rw [List.getD_eq_getElem?_getD, List.getElem?_eq_getElem h]
 exact List.getElem_mem _
theorem fndR_mem {q : Sq Hst} {n : ByteArray} {k : Int} {r : Rec} (h : r ∈ fndR q n k) : r ∈ fndN q.g n k q.n := List.mem_of_mem_take h
def lnsL (l : List ByteArray) : List Hst := (l.filter fun x => lnOk (words x)).map fun x => lnH (words x)
theorem lnsL_app (l m : List ByteArray) : lnsL (l ++ m) = lnsL l ++ lnsL m := by unfold lnsL; rw [List.filter_append, List.map_append]
theorem prsN_eq (l : List ByteArray) : ∀ i, i ≤ l.length → prsN l i = (lnsL (l.take i)).take 64
 | 0, _ => rfl
 | i + 1, h => by
  have ih := prsN_eq l i (by omega)
  have ht := take_snoc' l i ⟨#[]⟩ (by omega)
  rw [ht, lnsL_app, prsN, ih, putH]
  have e : lnsL [l.getD i ⟨#[]⟩] = if lnOk (words (l.getD i ⟨#[]⟩)) = true then [lnH (words (l.getD i ⟨#[]⟩))] else [] := by
   unfold lnsL
   rw [List.filter_cons]
   split <;> rfl
  rw [e]
  by_cases h2 : lnOk (words (l.getD i ⟨#[]⟩)) = true
  ·rw [if_pos h2]
   by_cases h3 : lenH ((lnsL (l.take i)).take 64) = 64
   ·rw [if_neg (fun k => k.1 h3)]
    unfold lenH at h3
    rw [List.length_take] at h3
    rw [List.take_append_of_le_length (by omega)]
   ·rw [if_pos ⟨h3, h2⟩]
    unfold lenH at h3
    rw [List.length_take] at h3
    have t1 : (lnsL (l.take i)).take 64 = lnsL (l.take i) := List.take_of_length_le (by omega)
    rw [t1]
    exact (List.take_of_length_le (by rw [List.length_append, List.length_singleton]; omega)).symm
  ·rw [if_neg h2, if_neg (fun k => h2 k.2), List.append_nil]
theorem prsH_eq (s : ByteArray) : prsH s = (lnsL (linesS s)).take 64 := by
 have := prsN_eq (linesS s) _ (Nat.le_refl _)
 rw [List.take_length] at this
 exact this
end Go.Proofs.YtkjcoehblekpdaaGreatDoorAv
namespace Go.Proofs.YtkjcoehblekpdaaGreatDoorAv
open Go Go.RowKit
def woE (s : ByteArray) (i : Nat) : Bool := (i : Int) == s.size || sbyte s i == 35 || sbyte s i == 32 || sbyte s i == 9
def woW (s : ByteArray) : Nat → ByteArray
 | 0 => ⟨#[]⟩
 | i + 1 => if woE s i = true then ⟨#[]⟩ else woW s i ++ s.extract i (i + 1)
def woL (s : ByteArray) : Nat → List ByteArray
 | 0 => []
 | i + 1 => if woE s i = true ∧ woW s i ≠ ⟨#[]⟩ then woL s i ++ [woW s i] else woL s i
def lenT (l : List ByteArray) : Nat := l.length
def wordsC' : CT := C1 dStr (fun s => [s.size ≤ 1000000]) fun s => .fz (lenT (words s)) 1 fun j => [XT ((words s).getD j ⟨#[]⟩)]
theorem wrd_ok' : CTok Tryz.prog 17 wordsC' := wrd_ok
def cx3 : Cx := { cx0 with C := [(9, hfitC), (10, ligC), (17, wordsC')] }
theorem cx3_ok : cx3.ok Tryz.prog := ((cx0_ok.addC wrd_ok').addC lig_ok).addC hfit_ok
def woR (l : List ByteArray) : Nat × XRow := (0, .vec 9 true (lenT l) 1 fun j => [XT (l.getD j ⟨#[]⟩)])
def woI (s : ByteArray) : Inv where
 σ := IL
 S := fun x => ⟨[(0, XT s), (3, .fz (lenT (words s)) 1 fun j => [XT ((words s).getD j ⟨#[]⟩)]), (4, .sl 0 1 0 (lenT (woL s x.i))), (5, XT (woW s x.i)), (17, XI ((s.size : Int) + 1)), (18, XI x.i)], [woR (woL s x.i)], 1, false, []⟩
 inv := fun x => x.i ≤ s.size + 1 ∧ (∀ j, j < x.i → j < s.size → sbyte s j ≠ 35)
 μ := fun x => s.size + 1 - x.i
def woC (s : ByteArray) : Inv where
 σ := IL
 S := fun _ => ⟨[(3, .fz (lenT (words s)) 1 fun j => [XT ((words s).getD j ⟨#[]⟩)]), (4, .sl 0 1 0 (lenT (words s)))], [woR (words s)], 1, false, []⟩
 inv := fun _ => True
 μ := fun _ => 0
def woJ (s : ByteArray) : Inv where
 σ := IL
 S := fun x => ⟨[(3, .fz (lenT (words s)) 1 fun j => [XT ((words s).getD j ⟨#[]⟩)]), (4, .sl 0 1 0 (lenT (words s))), (73, XI (lenT (words s))), (74, XI x.i)], [woR (words s)], 1, false, []⟩
 inv := fun x => x.i ≤ lenT (words s)
 μ := fun x => lenT (words s) - x.i
def woEn (s : ByteArray) : Env := { loops := [(0, woI s), (2, woJ s)], cuts := [(18, woC s)], own := [(7, [(4, 9, 1)])] }
def woV_a (s : ByteArray) :=
 ((XV.fz (lenT (words s)) 1 fun (j : Nat) => [XT ((words s).getD j ⟨#[]⟩)]) = XV.fz (lenT (words s)) 1 fun (j : Nat) => [XT ((words s).getD j ⟨#[]⟩)])
def woV_b :=
 ((9 : TypeId) = (9 : TypeId) ∧ true = true ∧ (1 : Nat) = (1 : Nat))
def woV (s : ByteArray) : Prop :=
 ((!true) = true → false = true) ∧ ((!true) = false → ((!decide ((↑s.size : Int) ≤ (2000 : Int))) = true → true = true) ∧ ((!decide ((↑s.size : Int) ≤ (2000 : Int))) = false → s.size ≤ (1000000 : Nat) ∧ (in64 ((↑s.size : Int) + (1 : Int)) ∧ (∃ (x : (woI s).σ), (x.i ≤ s.size + (1 : Nat) ∧ ∀ (j : Nat), j < x.i → j < s.size → sbyte s (↑j : Int) ≠ (35 : Int)) ∧ true = true ∧ s = s ∧ (woV_a s) ∧ XV.sl 0 1 0 0 = XV.sl 0 1 0 (lenT (woL s x.i)) ∧ ⟨#[]⟩ = woW s x.i ∧ (↑s.size : Int) + (1 : Int) = (↑s.size : Int) + (1 : Int) ∧ (0 : Int) = (↑x.i : Int) ∧ (((9 : Nat) = (9 : TypeId) ∧ true = true ∧ (1 : Nat) = (1 : Nat)) ∧ (0 : Nat) = lenT (woL s x.i) ∧ ∀ (j : Nat), j < (0 : Nat) → [] = [XT ((woL s x.i).getD j ⟨#[]⟩)]) ∧ True) ∧ ∀ (x : IL), (x.i ≤ s.size + (1 : Nat) ∧ ∀ (j : Nat), j < x.i → j < s.size → sbyte s (↑j : Int) ≠ (35 : Int)) → (decide ((↑x.i : Int) < (↑s.size : Int) + (1 : Int)) = true → ((!(↑x.i : Int) == (↑s.size : Int)) = true → (0 : Int) ≤ (↑x.i : Int)) ∧ ((!(↑x.i : Int) == (↑s.size : Int)) = true → (↑x.i : Int) < (↑s.size : Int)) ∧ ((!((↑x.i : Int) == (↑s.size : Int) || sbyte s (↑x.i : Int) == (35 : Int))) = true → (0 : Int) ≤ (↑x.i : Int)) ∧ ((!((↑x.i : Int) == (↑s.size : Int) || sbyte s (↑x.i : Int) == (35 : Int))) = true → (↑x.i : Int) < (↑s.size : Int)) ∧ ((!((↑x.i : Int) == (↑s.size : Int) || sbyte s (↑x.i : Int) == (35 : Int) || sbyte s (↑x.i : Int) == (32 : Int))) = true → (0 : Int) ≤ (↑x.i : Int)) ∧ ((!((↑x.i : Int) == (↑s.size : Int) || sbyte s (↑x.i : Int) == (35 : Int) || sbyte s (↑x.i : Int) == (32 : Int))) = true → (↑x.i : Int) < (↑s.size : Int)) ∧ (((↑x.i : Int) == (↑s.size : Int) || sbyte s (↑x.i : Int) == (35 : Int) || sbyte s (↑x.i : Int) == (32 : Int) || sbyte s (↑x.i : Int) == (9 : Int)) = true → ((!decide (woW s x.i = ⟨#[]⟩)) = true → lenT (woL s x.i) = lenT (woL s x.i) ∧ (lenT (woL s x.i) + (1 : Nat)) * (16 : Nat) ≤ (140737488355328 : Nat) ∧ lenT (woL s x.i) + (1 : Nat) ≤ (140737488355328 : Nat) ∧ (decide ((↑x.i : Int) < (↑s.size : Int)) = true → (0 : Int) ≤ (↑x.i : Int)) ∧ (decide ((↑x.i : Int) < (↑s.size : Int)) = true → (↑x.i : Int) < (↑s.size : Int)) ∧ ((decide ((↑x.i : Int) < (↑s.size : Int)) && sbyte s (↑x.i : Int) == (35 : Int)) = true → ∃ (x_1 : (woC s).σ), True ∧ true = true ∧ (woV_a s) ∧ XV.sl 0 1 0 (lenT (woL s x.i) + (1 : Nat)) = XV.sl 0 1 0 (lenT (words s)) ∧ (woV_b ∧ lenT (woL s x.i) + (1 : Nat) = lenT (words s) ∧ ∀ (j : Nat), j < lenT (woL s x.i) + (1 : Nat) → [XT (bif j.blt (lenT (woL s x.i)) then (woL s x.i).getD j ⟨#[]⟩ else woW s x.i)] = [XT ((words s).getD j ⟨#[]⟩)]) ∧ True) ∧ ((decide ((↑x.i : Int) < (↑s.size : Int)) && sbyte s (↑x.i : Int) == (35 : Int)) = false → in64 ((↑x.i : Int) + (1 : Int)) ∧ ∃ (x' : (woI s).σ), (x'.i ≤ s.size + (1 : Nat) ∧ ∀ (j : Nat), j < x'.i → j < s.size → sbyte s (↑j : Int) ≠ (35 : Int)) ∧ s.size + (1 : Nat) - x'.i < s.size + (1 : Nat) - x.i ∧ true = true ∧ s = s ∧ (woV_a s) ∧ XV.sl 0 1 0 (lenT (woL s x.i) + (1 : Nat)) = XV.sl 0 1 0 (lenT (woL s x'.i)) ∧ ⟨#[]⟩ = woW s x'.i ∧ (↑s.size : Int) + (1 : Int) = (↑s.size : Int) + (1 : Int) ∧ (↑x.i : Int) + (1 : Int) = (↑x'.i : Int) ∧ (woV_b ∧ lenT (woL s x.i) + (1 : Nat) = lenT (woL s x'.i) ∧ ∀ (j : Nat), j < lenT (woL s x.i) + (1 : Nat) → [XT (bif j.blt (lenT (woL s x.i)) then (woL s x.i).getD j ⟨#[]⟩ else woW s x.i)] = [XT ((woL s x'.i).getD j ⟨#[]⟩)]) ∧ True)) ∧ ((!decide (woW s x.i = ⟨#[]⟩)) = false → (decide ((↑x.i : Int) < (↑s.size : Int)) = true → (0 : Int) ≤ (↑x.i : Int)) ∧ (decide ((↑x.i : Int) < (↑s.size : Int)) = true → (↑x.i : Int) < (↑s.size : Int)) ∧ ((decide ((↑x.i : Int) < (↑s.size : Int)) && sbyte s (↑x.i : Int) == (35 : Int)) = true → ∃ (x_1 : (woC s).σ), True ∧ true = true ∧ (woV_a s) ∧ XV.sl 0 1 0 (lenT (woL s x.i)) = XV.sl 0 1 0 (lenT (words s)) ∧ (woV_b ∧ lenT (woL s x.i) = lenT (words s) ∧ ∀ (j : Nat), j < lenT (woL s x.i) → [XT ((woL s x.i).getD j ⟨#[]⟩)] = [XT ((words s).getD j ⟨#[]⟩)]) ∧ True) ∧ ((decide ((↑x.i : Int) < (↑s.size : Int)) && sbyte s (↑x.i : Int) == (35 : Int)) = false → in64 ((↑x.i : Int) + (1 : Int)) ∧ ∃ (x' : (woI s).σ), (x'.i ≤ s.size + (1 : Nat) ∧ ∀ (j : Nat), j < x'.i → j < s.size → sbyte s (↑j : Int) ≠ (35 : Int)) ∧ s.size + (1 : Nat) - x'.i < s.size + (1 : Nat) - x.i ∧ true = true ∧ s = s ∧ (woV_a s) ∧ XV.sl 0 1 0 (lenT (woL s x.i)) = XV.sl 0 1 0 (lenT (woL s x'.i)) ∧ ⟨#[]⟩ = woW s x'.i ∧ (↑s.size : Int) + (1 : Int) = (↑s.size : Int) + (1 : Int) ∧ (↑x.i : Int) + (1 : Int) = (↑x'.i : Int) ∧ (woV_b ∧ lenT (woL s x.i) = lenT (woL s x'.i) ∧ ∀ (j : Nat), j < lenT (woL s x.i) → [XT ((woL s x.i).getD j ⟨#[]⟩)] = [XT ((woL s x'.i).getD j ⟨#[]⟩)]) ∧ True))) ∧ (((↑x.i : Int) == (↑s.size : Int) || sbyte s (↑x.i : Int) == (35 : Int) || sbyte s (↑x.i : Int) == (32 : Int) || sbyte s (↑x.i : Int) == (9 : Int)) = false → in64 ((↑x.i : Int) + (1 : Int)) ∧ (0 : Int) ≤ (↑x.i : Int) ∧ (↑x.i : Int) ≤ (↑x.i : Int) + (1 : Int) ∧ (↑x.i : Int) + (1 : Int) ≤ (↑s.size : Int) ∧ (woW s x.i).size + (s.extract (↑x.i : Int).toNat ((↑x.i : Int) + (1 : Int)).toNat).size ≤ (9223372036854775807 : Nat) ∧ in64 ((↑x.i : Int) + (1 : Int)) ∧ ∃ (x' : (woI s).σ), (x'.i ≤ s.size + (1 : Nat) ∧ ∀ (j : Nat), j < x'.i → j < s.size → sbyte s (↑j : Int) ≠ (35 : Int)) ∧ s.size + (1 : Nat) - x'.i < s.size + (1 : Nat) - x.i ∧ true = true ∧ s = s ∧ (woV_a s) ∧ XV.sl 0 1 0 (lenT (woL s x.i)) = XV.sl 0 1 0 (lenT (woL s x'.i)) ∧ woW s x.i ++ s.extract (↑x.i : Int).toNat ((↑x.i : Int) + (1 : Int)).toNat = woW s x'.i ∧ (↑s.size : Int) + (1 : Int) = (↑s.size : Int) + (1 : Int) ∧ (↑x.i : Int) + (1 : Int) = (↑x'.i : Int) ∧ (woV_b ∧ lenT (woL s x.i) = lenT (woL s x'.i) ∧ ∀ (j : Nat), j < lenT (woL s x.i) → [XT ((woL s x.i).getD j ⟨#[]⟩)] = [XT ((woL s x'.i).getD j ⟨#[]⟩)]) ∧ True)) ∧ (decide ((↑x.i : Int) < (↑s.size : Int) + (1 : Int)) = false → ∃ (x_1 : (woC s).σ), True ∧ true = true ∧ (woV_a s) ∧ XV.sl 0 1 0 (lenT (woL s x.i)) = XV.sl 0 1 0 (lenT (words s)) ∧ (woV_b ∧ lenT (woL s x.i) = lenT (words s) ∧ ∀ (j : Nat), j < lenT (woL s x.i) → [XT ((woL s x.i).getD j ⟨#[]⟩)] = [XT ((words s).getD j ⟨#[]⟩)]) ∧ True)) ∧ ∀ (x : IL), True → (((↑(lenT (words s)) : Int) != (↑(lenT (words s)) : Int)) = true → false = true) ∧ (((↑(lenT (words s)) : Int) != (↑(lenT (words s)) : Int)) = false → (∃ (x : (woJ s).σ), x.i.le (lenT (words s)) ∧ true = true ∧ (woV_a s) ∧ XV.sl 0 1 0 (lenT (words s)) = XV.sl 0 1 0 (lenT (words s)) ∧ (↑(lenT (words s)) : Int) = (↑(lenT (words s)) : Int) ∧ (0 : Int) = (↑x.i : Int) ∧ (woV_b ∧ lenT (words s) = lenT (words s) ∧ ∀ (j : Nat), j < lenT (words s) → [XT ((words s).getD j ⟨#[]⟩)] = [XT ((words s).getD j ⟨#[]⟩)]) ∧ True) ∧ ∀ (x : IL), x.i.le (lenT (words s)) → (decide ((↑x.i : Int) < (↑(lenT (words s)) : Int)) = true → (0 : Int) ≤ (↑x.i : Int) ∧ (↑x.i : Int) < (↑(lenT (words s)) : Int) ∧ (0 : Int) ≤ (↑x.i : Int) ∧ (↑x.i : Int) < (↑(lenT (words s)) : Int) ∧ (0 : Nat) + (↑x.i : Int).toNat < lenT (words s) ∧ ((!decide ((words s).getD (↑x.i : Int).toNat ⟨#[]⟩ = (words s).getD ((0 : Nat) + (↑x.i : Int).toNat) ⟨#[]⟩)) = true → false = true) ∧ ((!decide ((words s).getD (↑x.i : Int).toNat ⟨#[]⟩ = (words s).getD ((0 : Nat) + (↑x.i : Int).toNat) ⟨#[]⟩)) = false → in64 ((↑x.i : Int) + (1 : Int)) ∧ ∃ (x' : (woJ s).σ), x'.i.le (lenT (words s)) ∧ lenT (words s) - x'.i < lenT (words s) - x.i ∧ true = true ∧ (woV_a s) ∧ XV.sl 0 1 0 (lenT (words s)) = XV.sl 0 1 0 (lenT (words s)) ∧ (↑(lenT (words s)) : Int) = (↑(lenT (words s)) : Int) ∧ (↑x.i : Int) + (1 : Int) = (↑x'.i : Int) ∧ (woV_b ∧ lenT (words s) = lenT (words s) ∧ ∀ (j : Nat), j < lenT (words s) → [XT ((words s).getD j ⟨#[]⟩)] = [XT ((words s).getD j ⟨#[]⟩)]) ∧ True)) ∧ (decide ((↑x.i : Int) < (↑(lenT (words s)) : Int)) = false → true = true))))
theorem woV_eq (s : ByteArray) : woV s = (funC cx3 Tryz.f7 (mkSc (woEn s) (bodyOf Tryz.f7)) [XT s] (XB true)) := by kernel_rfl
theorem cut1_take (l : List UInt8) : ∀ i, (∀ j, j < i → l.getD j 0 ≠ 35) → i ≤ l.length → (i = l.length ∨ l.getD i 0 = 35) → (cut1 35 l).1 = l.take i := by
 induction l with
 | nil =>
  intro i _ h _
  obtain rfl : i = 0 := by simpa using h
  rfl
 | cons b l ih =>
  intro i h1 h2 h3
  cases i with
  | zero =>
   rcases h3 with h3 | h3
   ·simp at h3
   ·have h3 : b = 35 := h3
    rw [cut1, if_pos h3]
    rfl
  | succ i =>
   have h4 : b ≠ 35 := h1 0 (by omega)
   rw [cut1, if_neg h4]
   show b :: (cut1 35 l).1 = b :: l.take i
   rw [ih i (fun j hj => h1 (j + 1) (by omega)) (by simpa using h2) (by
    rcases h3 with h3 | h3
    ·left; simpa using h3
    ·right; exact h3)]
theorem words_one (s : ByteArray) : words s = ((split1 32 (repl1 9 [32] (cut1 35 s.data.toList).1)).map mk8).filter isNE := by
 unfold words wPieces
 rw [cutB_one, replB_one, splitS_one]
 rfl
theorem wo_inv (s : ByteArray) : ∀ i, i ≤ s.size → (∀ j, j < i → j < s.size → sbyte s j ≠ 35) → ∃ A x, split1 32 (repl1 9 [32] (s.data.toList.take i)) = A ++ [x] ∧ woW s i = mk8 x ∧ woL s i = (A.map mk8).filter isNE
 | 0, _, _ => ⟨[], [], rfl, rfl, rfl⟩
 | i + 1, h, hn => by
  obtain ⟨A, x, h1, h2, h3⟩ := wo_inv s i (by omega) fun j hj hz => hn j (by omega) hz
  have hl : i < s.data.toList.length := by rw [← size_data]; omega
  have h35 := hn i (by omega) (by omega)
  have hr : repl1 9 [32] (s.data.toList.take (i + 1)) = repl1 9 [32] (s.data.toList.take i) ++ (if s.data.toList.getD i 0 = 9 then [32] else [s.data.toList.getD i 0]) := by
   rw [take_snoc' _ i 0 hl]
   unfold repl1
   rw [List.flatMap_append]
   congr 1
   simp
  have hb : sbyte s i = ((s.data.toList.getD i 0).toNat : Int) := rfl
  have hz : ((i : Int) == (s.size : Int)) = false := by rw [beq_eq_false_iff_ne]; omega
  have hx : s.extract i (i + 1) = mk8 [s.data.toList.getD i 0] := by
   rw [← data_mk8 (s.extract i (i + 1)), ext_data s i (i + 1) (by omega) (by omega), show i + 1 - i = 1 by omega]
   congr 1
   rw [List.getD_eq_getElem?_getD, List.getElem?_eq_getElem hl, List.drop_eq_getElem_cons hl]
   rfl
  rw [hr]
  have stop : woE s i = true → split1 32 (repl1 9 [32] (s.data.toList.take i) ++ [32]) = (A ++ [x]) ++ [[]] ∧ woW s (i + 1) = mk8 [] ∧ woL s (i + 1) = ((A ++ [x]).map mk8).filter isNE := fun e => by
   refine ⟨?_, by rw [woW, if_pos e]; rfl, ?_⟩
   ·rw [split1_snoc 32 32 _ A x h1, if_pos rfl, List.append_assoc]; rfl
   ·rw [List.map_append, List.filter_append, ← h3, woL]
    by_cases k : woW s i = ⟨#[]⟩
    ·rw [if_neg (fun q => q.2 k)]
     have : isNE (mk8 x) = false := by rw [← h2]; unfold isNE; rw [decide_eq_true k]; rfl
     rw [List.map_singleton, List.filter_cons, if_neg (by rw [this]; decide)]
     simp
    ·rw [if_pos ⟨e, k⟩, h2]
     have : isNE (mk8 x) = true := by rw [← h2]; unfold isNE; rw [decide_eq_false k]; rfl
     rw [List.map_singleton, List.filter_cons, if_pos this]
     rfl
  by_cases h9 : s.data.toList.getD i 0 = 9
  ·rw [if_pos h9]
   obtain ⟨q1, q2, q3⟩ := stop (by unfold woE; rw [hb, h9]; simp)
   exact ⟨_, _, q1, q2, q3⟩
  ·rw [if_neg h9]
   by_cases h32 : s.data.toList.getD i 0 = 32
   ·rw [h32]
    obtain ⟨q1, q2, q3⟩ := stop (by unfold woE; rw [hb, h32]; simp)
    exact ⟨_, _, q1, q2, q3⟩
   ·have e : woE s i = false := by
     unfold woE
     have e2 : (sbyte s i == 35) = false := by rw [beq_eq_false_iff_ne]; exact h35
     have e3 : (sbyte s i == 32) = false := by
      rw [beq_eq_false_iff_ne, hb]
      intro k
      exact h32 (UInt8.toNat_inj.1 (show _ = 32 by omega))
     have e4 : (sbyte s i == 9) = false := by
      rw [beq_eq_false_iff_ne, hb]
      intro k
      exact h9 (UInt8.toNat_inj.1 (show _ = 9 by omega))
     rw [hz, e2, e3, e4]
     rfl
    refine ⟨A, x ++ [s.data.toList.getD i 0], ?_, ?_, ?_⟩
    ·rw [split1_snoc 32 _ _ A x h1, if_neg h32]
    ·rw [woW, if_neg (by rw [e]; decide), h2, hx]
     rfl
    ·rw [woL, if_neg (by rw [e]; exact fun q => Bool.noConfusion q.1), h3]
theorem wo_end (s : ByteArray) (i : Nat) (h : i ≤ s.size) (hn : ∀ j, j < i → j < s.size → sbyte s j ≠ 35) (he : i = s.size ∨ sbyte s i = 35) : woL s (i + 1) = words s := by
 obtain ⟨A, x, h1, h2, h3⟩ := wo_inv s i h hn
 have hc : (cut1 35 s.data.toList).1 = s.data.toList.take i := by
  refine cut1_take _ i (fun j hj k => hn j hj (by omega) ?_) (by rw [← size_data]; exact h) ?_
  ·show ((s.data.toList.getD j 0).toNat : Int) = 35
   rw [k]; rfl
  ·rcases he with he | he
   ·left; rw [← size_data]; exact he
   ·right
    have he : ((s.data.toList.getD i 0).toNat : Int) = 35 := he
    exact UInt8.toNat_inj.1 (show _ = 35 by omega)
 have e : woE s i = true := by
  unfold woE
  rcases he with he | he
  ·rw [he]; simp
  ·rw [he]; simp
 rw [words_one, hc, h1, List.map_append, List.filter_append, ← h3, woL]
 by_cases k : woW s i = ⟨#[]⟩
 ·rw [if_neg (fun q => q.2 k)]
  have : isNE (mk8 x) = false := by rw [← h2]; unfold isNE; rw [decide_eq_true k]; rfl
  rw [List.map_singleton, List.filter_cons, if_neg (by rw [this]; decide)]
  simp
 ·rw [if_pos ⟨e, k⟩, h2]
  have : isNE (mk8 x) = true := by rw [← h2]; unfold isNE; rw [decide_eq_false k]; rfl
  rw [List.map_singleton, List.filter_cons, if_pos this]
  rfl
theorem woL_len (s : ByteArray) : ∀ i, lenT (woL s i) ≤ i
 | 0 => Nat.le_refl _
 | i + 1 => by
  have ih := woL_len s i
  unfold lenT at *
  rw [woL]
  split
  ·rw [List.length_append, List.length_singleton]; omega
  ·omega
theorem woW_size (s : ByteArray) : ∀ i, (woW s i).size ≤ i
 | 0 => Nat.le_refl _
 | i + 1 => by
  have ih := woW_size s i
  rw [woW]
  split
  ·exact Nat.zero_le _
  ·rw [ByteArray.size_append, ByteArray.size_extract]; omega
theorem wo_v (s : ByteArray) : woV s := by
 unfold woV woV_b woV_a
 refine ⟨fun h => absurd h (by decide), fun _ => ⟨fun _ => rfl, fun h => ?_⟩⟩
 have h1 : decide ((s.size : Int) ≤ 2000) = true := by simpa using h
 have h1 : (s.size : Int) ≤ 2000 := of_decide_eq_true h1
 have hwl := words_len s
 refine ⟨by omega, ⟨by unfold in64; omega, ⟨⟨0⟩, ⟨Nat.zero_le _, fun j hj => absurd hj (Nat.not_lt_zero _)⟩, rfl, rfl, rfl, rfl, rfl, rfl, rfl, ⟨⟨rfl, rfl, rfl⟩, rfl, fun j hj => absurd hj (Nat.not_lt_zero _)⟩, trivial⟩, ?_⟩, ?_⟩
 ·rintro ⟨i⟩ ⟨hi, hn⟩
  have hi : i ≤ s.size + 1 := hi
  have hn : ∀ j : Nat, j < i → j < s.size → sbyte s j ≠ 35 := hn
  have hll := woL_len s i
  have hws := woW_size s i
  dsimp only
  refine ⟨fun h2 => ?_, fun h2 => ?_⟩
  ·have h2 : (i : Int) < (s.size : Int) + 1 := of_decide_eq_true h2
   have g : ∀ c : Bool, (!((i : Int) == (s.size : Int) || c)) = true → (i : Int) < (s.size : Int) := fun c k => by
    rw [Bool.not_eq_true', Bool.or_eq_false_iff, beq_eq_false_iff_ne] at k
    omega
   have g0 : (!((i : Int) == (s.size : Int))) = true → (i : Int) < (s.size : Int) := fun k => g false (by rw [Bool.or_false]; exact k)
   refine ⟨fun _ => by omega, g0, fun _ => by omega, g _, fun _ => by omega, fun k => g _ (by rw [Bool.or_assoc] at k; exact k), fun h3 => ?_, fun h3 => ?_⟩
   ·have hE : woE s i = true := h3
    have nx : (decide ((i : Int) < (s.size : Int)) && sbyte s (i : Int) == 35) = false → ∀ j, j < i + 1 → j < s.size → sbyte s j ≠ 35 := fun k j hj hz => by
     by_cases e : j = i
     ·subst e
      rw [decide_eq_true (by omega), Bool.true_and, beq_eq_false_iff_ne] at k
      exact k
     ·exact hn j (by omega) hz
    have en : (decide ((i : Int) < (s.size : Int)) && sbyte s (i : Int) == 35) = true → woL s (i + 1) = words s := fun k => by
     rw [Bool.and_eq_true, decide_eq_true_eq, beq_iff_eq] at k
     exact wo_end s i (by omega) hn (.inr k.2)
    have hW : woW s (i + 1) = ⟨#[]⟩ := by rw [woW, if_pos hE]
    refine ⟨fun h4 => ?_, fun h4 => ?_⟩
    ·have h4 : ¬ woW s i = ⟨#[]⟩ := by simpa using h4
     have e1 : woL s (i + 1) = woL s i ++ [woW s i] := by rw [woL, if_pos ⟨hE, h4⟩]
     have e2 : lenT (woL s i) + 1 = lenT (woL s (i + 1)) := by rw [e1]; unfold lenT; rw [List.length_append, List.length_singleton]
     have e3 : ∀ j, j < lenT (woL s i) + 1 → [XT (bif j.blt (lenT (woL s i)) then (woL s i).getD j ⟨#[]⟩ else woW s i)] = [XT ((woL s (i + 1)).getD j ⟨#[]⟩)] := fun j hj => by
      rw [e1]
      exact congrArg (fun s => [XT s]) (row_app1 (woL s i) (woW s i) ⟨#[]⟩ j hj)
     refine ⟨rfl, by omega, by omega, fun _ => by omega, fun k => of_decide_eq_true k, fun h5 => ?_, fun h5 => ?_⟩
     ·rw [← en h5]
      exact ⟨⟨0⟩, trivial, rfl, rfl, congrArg (XV.sl 0 1 0) e2, ⟨⟨rfl, rfl, rfl⟩, e2, e3⟩, trivial⟩
     ·exact ⟨by unfold in64; omega, ⟨i + 1⟩, ⟨by show i + 1 ≤ s.size + 1; omega, nx h5⟩, by show s.size + 1 - (i + 1) < _; omega, rfl, rfl, rfl, congrArg (XV.sl 0 1 0) e2, hW.symm, rfl, rfl, ⟨⟨rfl, rfl, rfl⟩, e2, e3⟩, trivial⟩
    ·have h4 : woW s i = ⟨#[]⟩ := by simpa using h4
     have e1 : woL s (i + 1) = woL s i := by rw [woL, if_neg (fun q => q.2 h4)]
     refine ⟨fun _ => by omega, fun k => of_decide_eq_true k, fun h5 => ?_, fun h5 => ?_⟩
     ·rw [← en h5, e1]
      exact ⟨⟨0⟩, trivial, rfl, rfl, rfl, ⟨⟨rfl, rfl, rfl⟩, rfl, fun _ _ => rfl⟩, trivial⟩
     ·exact ⟨by unfold in64; omega, ⟨i + 1⟩, ⟨by show i + 1 ≤ s.size + 1; omega, nx h5⟩, by show s.size + 1 - (i + 1) < _; omega, rfl, rfl, rfl, congrArg (fun l => XV.sl 0 1 0 (lenT l)) e1.symm, hW.symm, rfl, rfl, ⟨⟨rfl, rfl, rfl⟩, congrArg lenT e1.symm, fun j _ => congrArg (fun l : List ByteArray => [XT (l.getD j ⟨#[]⟩)]) e1.symm⟩, trivial⟩
   ·have hE : woE s i = false := h3
    have h3' := h3
    rw [Bool.or_eq_false_iff, Bool.or_eq_false_iff, Bool.or_eq_false_iff, beq_eq_false_iff_ne, beq_eq_false_iff_ne] at h3'
    obtain ⟨⟨⟨k1, k2⟩, -⟩, -⟩ := h3'
    have e1 : woL s (i + 1) = woL s i := by rw [woL, if_neg (by rw [hE]; exact fun q => Bool.noConfusion q.1)]
    have e2 : woW s (i + 1) = woW s i ++ s.extract i (i + 1) := by rw [woW, if_neg (by rw [hE]; decide)]
    refine ⟨by unfold in64; omega, by omega, by omega, by omega, by rw [ByteArray.size_extract]; omega, by unfold in64; omega, ⟨i + 1⟩, ⟨by show i + 1 ≤ s.size + 1; omega, fun j hj hz => ?_⟩, by show s.size + 1 - (i + 1) < _; omega, rfl, rfl, rfl, congrArg (fun l => XV.sl 0 1 0 (lenT l)) e1.symm, e2.symm, rfl, rfl, ⟨⟨rfl, rfl, rfl⟩, congrArg lenT e1.symm, fun j _ => congrArg (fun l : List ByteArray => [XT (l.getD j ⟨#[]⟩)]) e1.symm⟩, trivial⟩
    by_cases e : j = i
    ·rw [e]; exact k2
    ·exact hn j (by have hj : j < i + 1 := hj; omega) hz
  ·have h2 : ¬ (i : Int) < (s.size : Int) + 1 := of_decide_eq_false h2
   obtain rfl : i = s.size + 1 := by omega
   rw [wo_end s s.size (Nat.le_refl _) (fun j hj hz => hn j (by omega) hz) (.inl rfl)]
   exact ⟨⟨0⟩, trivial, rfl, rfl, rfl, ⟨⟨rfl, rfl, rfl⟩, rfl, fun _ _ => rfl⟩, trivial⟩
 ·rintro - -
  refine ⟨fun h2 => by simp at h2, fun _ => ⟨⟨⟨0⟩, Nat.zero_le _, rfl, rfl, rfl, rfl, rfl, ⟨⟨rfl, rfl, rfl⟩, rfl, fun _ _ => rfl⟩, trivial⟩, ?_⟩⟩
  rintro ⟨i⟩ hi
  have hi : i ≤ lenT (words s) := hi
  have hwl : lenT (words s) ≤ s.size + 1 := hwl
  dsimp only
  refine ⟨fun h2 => ?_, fun _ => rfl⟩
  have h2 : (i : Int) < lenT (words s) := of_decide_eq_true h2
  rw [Int.toNat_natCast, Nat.zero_add]
  refine ⟨by omega, h2, by omega, h2, by omega, fun h3 => by simp at h3, fun _ => ⟨by unfold in64; omega, ⟨i + 1⟩, (show i + 1 ≤ lenT (words s) by omega), (show lenT (words s) - (i + 1) < lenT (words s) - i by omega), rfl, rfl, rfl, rfl, rfl, ⟨⟨rfl, rfl, rfl⟩, rfl, fun _ _ => rfl⟩, trivial⟩⟩
theorem hwords_ok : CTok Tryz.prog 7 (C1 dStr (fun _ => []) fun _ => XB true) := C1_ok cx3_ok Tryz.func7 rfl (by decide) dStr_eq.ok (by kernel_rfl) (fun _ => rfl) fun s _ => exv (woV_eq s) (wo_v s)
end Go.Proofs.YtkjcoehblekpdaaGreatDoorAv
namespace Go.Proofs.YtkjcoehblekpdaaGreatDoorAv
open Go Go.RowKit
def nzI (q : Sq Hst) : Inv where
 σ := IL
 S := fun x => ⟨[(3, .sl 0 1 0 x.i), (6, sqH q), (7, XI q.n), (8, XI x.i)], [(0, .vec 9 true x.i 1 fun j => [XT ((q.g j).q.g 0)])], 1, false, []⟩
 inv := fun x => x.i ≤ q.n
 μ := fun x => q.n - x.i
def nzE (q : Sq Hst) : Env := { loops := [(0, nzI q)], own := [(2, [(3, 9, 1)])] }
def nzV (q : Sq Hst) : Prop :=
 (∃ (x : (nzI q).σ), x.i.le q.n ∧ true = true ∧ XV.sl 0 1 0 0 = XV.sl 0 1 0 x.i ∧ (XV.fz q.n 17 fun (i : Nat) => (hostX (q.g i))) = sqH q ∧ (↑q.n : Int) = (↑q.n : Int) ∧ (0 : Int) = (↑x.i : Int) ∧ (((9 : Nat) = (9 : TypeId) ∧ true = true ∧ (1 : Nat) = (1 : Nat)) ∧ (0 : Nat) = x.i ∧ ∀ (j : Nat), j < (0 : Nat) → [] = [XT ((q.g j).q.g 0)]) ∧ True) ∧ ∀ (x : IL), x.i.le q.n → (decide ((↑x.i : Int) < (↑q.n : Int)) = true → (0 : Int) ≤ (↑x.i : Int) ∧ (↑x.i : Int) < (↑q.n : Int) ∧ (0 : Int) ≤ (0 : Int) ∧ (0 : Int) < (↑(q.g (↑x.i : Int).toNat).q.n : Int) ∧ x.i = x.i ∧ (x.i + (1 : Nat)) * (16 : Nat) ≤ (140737488355328 : Nat) ∧ x.i + (1 : Nat) ≤ (140737488355328 : Nat) ∧ in64 ((↑x.i : Int) + (1 : Int)) ∧ ∃ (x' : (nzI q).σ), x'.i.le q.n ∧ q.n - x'.i < q.n - x.i ∧ true = true ∧ XV.sl 0 1 0 (x.i + (1 : Nat)) = XV.sl 0 1 0 x'.i ∧ (XV.fz q.n 17 fun (i : Nat) => (hostX (q.g i))) = sqH q ∧ (↑q.n : Int) = (↑q.n : Int) ∧ (↑x.i : Int) + (1 : Int) = (↑x'.i : Int) ∧ (((9 : TypeId) = (9 : TypeId) ∧ true = true ∧ (1 : Nat) = (1 : Nat)) ∧ x.i + (1 : Nat) = x'.i ∧ ∀ (j : Nat), j < x.i + (1 : Nat) → [XT (bif j.blt x.i then (q.g j).q.g 0 else (q.g (↑x.i : Int).toNat).q.g ((0 : Nat)))] = [XT ((q.g j).q.g 0)]) ∧ True) ∧ (decide ((↑x.i : Int) < (↑q.n : Int)) = false → ((1 : Nat) = (1 : Nat) ∧ (1 : Nat) = (1 : Nat)) ∧ x.i = x.i ∧ x.i = q.n ∧ ∀ (j : Nat), j < x.i → [XT ((q.g j).q.g 0)] = [XT ((q.g j).q.g 0)])
theorem nzV_eq (q : Sq Hst) : nzV q = (funC cx0 Tryz.f16 (mkSc (nzE q) (bodyOf Tryz.f16)) [sqH q] (.fz q.n 1 fun i => [XT ((q.g i).q.g 0)])) := by kernel_rfl
def namesC : CT := C1 dHs (fun q => [q.n ≤ 1000000, ∀ i, i < q.n → 1 ≤ (q.g i).q.n]) fun q => .fz q.n 1 fun i => [XT ((q.g i).q.g 0)]
def cx4 : Cx := { cx0 with K := true, C := [(9, hfitC), (10, ligC), (11, prsC), (12, fnC), (14, revC), (16, namesC), (15, hasC)] }
def eqA (a b : A16) : Bool := a.x0 == b.x0 && (a.x1 == b.x1 && (a.x2 == b.x2 && (a.x3 == b.x3 && (a.x4 == b.x4 && (a.x5 == b.x5 && (a.x6 == b.x6 && (a.x7 == b.x7 && (a.x8 == b.x8 && (a.x9 == b.x9 && (a.x10 == b.x10 && (a.x11 == b.x11 && (a.x12 == b.x12 && (a.x13 == b.x13 && (a.x14 == b.x14 && (a.x15 == b.x15 && true)))))))))))))))
def cntA (g : Nat → Hst) (a : A16) : Nat → Nat
 | 0 => 0
 | j + 1 => if eqA (g j).a a = true then cntA g a j + 1 else cntA g a j
def rfL (s : ByteArray) (i : Nat) : List Rec := fndR (fndS (prsH s)) (rev (getH (prsH s) i).a.f) 12
def rfB (s : ByteArray) (i : Nat) : Bool := fndB (getH (prsH s)) (rev (getH (prsH s) i).a.f) (lenH (prsH s))
def rwI (s : ByteArray) : Inv where
 σ := IL
 S := fun x => ⟨[(3, hostsL (prsH s)), (18, hostsL (prsH s)), (19, XI (lenH (prsH s))), (20, XI x.i)], [], 0, false, []⟩
 inv := fun x => x.i ≤ lenH (prsH s)
 μ := fun x => lenH (prsH s) - x.i
def rwJ (s : ByteArray) (p : IL) : Inv where
 σ := IL
 S := fun x => ⟨[(3, hostsL (prsH s)), (5, .ptr 0 0 0 0), (6, recsL (rfL s p.i)), (7, XB (rfB s p.i)), (8, XI (cntA (getH (prsH s)) (getH (prsH s) p.i).a x.i)), (18, hostsL (prsH s)), (19, XI (lenH (prsH s))), (20, XI p.i), (32, hostsL (prsH s)), (33, XI (lenH (prsH s))), (34, XI x.i)],
  [(0, .one 30 true (hostX (getH (prsH s) p.i)))], 1, false, []⟩
 inv := fun x => x.i ≤ lenH (prsH s) ∧ p.i < lenH (prsH s)
 μ := fun x => lenH (prsH s) - x.i
def rwE (s : ByteArray) : Env := { loops := [(0, rwI s)], loopsP := [(2, ⟨IL, rwJ s⟩)] }
def rwV_a (s : ByteArray) (p : { α := IL, J := rwJ s : InvP }.α) (x_1 : IL) :=
 (!rfB s p.i || (↑(lenR (rfL s p.i)) : Int) != imin (↑(cntA (getH (prsH s)) (getH (prsH s) p.i).a x_1.i) : Int) 32 || (getR (rfL s p.i) ((0 : Nat))).k != (12 : Int))
def rwV_b (s : ByteArray) :=
 ((XV.fz (lenH (prsH s)) 17 fun (i : Nat) => (hostX (getH (prsH s) i))) = XV.fz (lenH (prsH s)) 17 fun (i : Nat) => (hostX (getH (prsH s) i)))
def rwV_c (s : ByteArray) (p : { α := IL, J := rwJ s : InvP }.α) (x_1 : IL) :=
 ((getH (prsH s) (↑x_1.i : Int).toNat).a.x0 == (getH (prsH s) p.i).a.x0 && ((getH (prsH s) (↑x_1.i : Int).toNat).a.x1 == (getH (prsH s) p.i).a.x1 && ((getH (prsH s) (↑x_1.i : Int).toNat).a.x2 == (getH (prsH s) p.i).a.x2 && ((getH (prsH s) (↑x_1.i : Int).toNat).a.x3 == (getH (prsH s) p.i).a.x3 && ((getH (prsH s) (↑x_1.i : Int).toNat).a.x4 == (getH (prsH s) p.i).a.x4 && ((getH (prsH s) (↑x_1.i : Int).toNat).a.x5 == (getH (prsH s) p.i).a.x5 && ((getH (prsH s) (↑x_1.i : Int).toNat).a.x6 == (getH (prsH s) p.i).a.x6 && ((getH (prsH s) (↑x_1.i : Int).toNat).a.x7 == (getH (prsH s) p.i).a.x7 && ((getH (prsH s) (↑x_1.i : Int).toNat).a.x8 == (getH (prsH s) p.i).a.x8 && ((getH (prsH s) (↑x_1.i : Int).toNat).a.x9 == (getH (prsH s) p.i).a.x9 && ((getH (prsH s) (↑x_1.i : Int).toNat).a.x10 == (getH (prsH s) p.i).a.x10 && ((getH (prsH s) (↑x_1.i : Int).toNat).a.x11 == (getH (prsH s) p.i).a.x11 && ((getH (prsH s) (↑x_1.i : Int).toNat).a.x12 == (getH (prsH s) p.i).a.x12 && ((getH (prsH s) (↑x_1.i : Int).toNat).a.x13 == (getH (prsH s) p.i).a.x13 && ((getH (prsH s) (↑x_1.i : Int).toNat).a.x14 == (getH (prsH s) p.i).a.x14 && ((getH (prsH s) (↑x_1.i : Int).toNat).a.x15 == (getH (prsH s) p.i).a.x15 && true))))))))))))))))
def rwV_d (s : ByteArray) (p : { α := IL, J := rwJ s : InvP }.α) :=
 (((30 : TypeId) = (30 : TypeId) ∧ true = true) ∧ (getH (prsH s) p.i).a.x0 = (getH (prsH s) p.i).a.x0 ∧ (getH (prsH s) p.i).a.x1 = (getH (prsH s) p.i).a.x1 ∧ (getH (prsH s) p.i).a.x2 = (getH (prsH s) p.i).a.x2 ∧ (getH (prsH s) p.i).a.x3 = (getH (prsH s) p.i).a.x3 ∧ (getH (prsH s) p.i).a.x4 = (getH (prsH s) p.i).a.x4 ∧ (getH (prsH s) p.i).a.x5 = (getH (prsH s) p.i).a.x5 ∧ (getH (prsH s) p.i).a.x6 = (getH (prsH s) p.i).a.x6 ∧ (getH (prsH s) p.i).a.x7 = (getH (prsH s) p.i).a.x7 ∧ (getH (prsH s) p.i).a.x8 = (getH (prsH s) p.i).a.x8 ∧ (getH (prsH s) p.i).a.x9 = (getH (prsH s) p.i).a.x9 ∧ (getH (prsH s) p.i).a.x10 = (getH (prsH s) p.i).a.x10 ∧ (getH (prsH s) p.i).a.x11 = (getH (prsH s) p.i).a.x11 ∧ (getH (prsH s) p.i).a.x12 = (getH (prsH s) p.i).a.x12 ∧ (getH (prsH s) p.i).a.x13 = (getH (prsH s) p.i).a.x13 ∧ (getH (prsH s) p.i).a.x14 = (getH (prsH s) p.i).a.x14 ∧ (getH (prsH s) p.i).a.x15 = (getH (prsH s) p.i).a.x15 ∧ ((XV.fz (getH (prsH s) p.i).q.n 1 fun (j : Nat) => [XT ((getH (prsH s) p.i).q.g j)]) = XV.fz (getH (prsH s) p.i).q.n 1 fun (j : Nat) => [XT ((getH (prsH s) p.i).q.g j)]) ∧ True)
def rwV (s : ByteArray) : Prop :=
 ((!true) = true → false = true) ∧ ((!true) = false → ((!decide ((↑s.size : Int) ≤ (2000 : Int))) = true → true = true) ∧ ((!decide ((↑s.size : Int) ≤ (2000 : Int))) = false → s.size ≤ (1000000 : Nat) ∧ (∃ (x : (rwI s).σ), x.i.le (lenH (prsH s)) ∧ true = true ∧ (rwV_b s) ∧ (rwV_b s) ∧ (↑(lenH (prsH s)) : Int) = (↑(lenH (prsH s)) : Int) ∧ (0 : Int) = (↑x.i : Int) ∧ True) ∧ ∀ (x : IL), x.i.le (lenH (prsH s)) → (decide ((↑x.i : Int) < (↑(lenH (prsH s)) : Int)) = true → (0 : Int) ≤ (↑x.i : Int) ∧ (↑x.i : Int) < (↑(lenH (prsH s)) : Int) ∧ (b16 (A16.f (getH (prsH s) (↑x.i : Int).toNat).a)) ∧ (∀ (i : Nat), i < lenH (prsH s) → (hostX (getH (prsH s) i)) = (hostX (getH (prsH s) i))) ∧ lenH (prsH s) ≤ (1000000 : Nat) ∧ (∀ (i : Nat), i < lenH (prsH s) → b16 (getH (prsH s) i).a.f ∧ (1 : Nat) ≤ (getH (prsH s) i).q.n ∧ (getH (prsH s) i).q.n ≤ (1000000 : Nat)) ∧ ∃ (p : { α := IL, J := rwJ s : InvP }.α), (∃ (x_1 : ({ α := IL, J := rwJ s : InvP }.J p).σ), (x_1.i ≤ lenH (prsH s) ∧ p.i < lenH (prsH s)) ∧ true = true ∧ (rwV_b s) ∧ XV.ptr 0 0 0 0 = XV.ptr 0 0 0 0 ∧ ((XV.fz (lenR (fndR { n := lenH (prsH s), g := getH (prsH s) : Sq Hst } (rev (A16.f (getH (prsH s) (↑x.i : Int).toNat).a)) 12)) 21 fun (i : Nat) => (recX (getR (fndR { n := lenH (prsH s), g := getH (prsH s) : Sq Hst } (rev (A16.f (getH (prsH s) (↑x.i : Int).toNat).a)) 12) i))) = XV.fz (lenR (rfL s p.i)) 21 fun (i : Nat) => (recX (getR (rfL s p.i) i))) ∧ fndB (getH (prsH s)) (rev (A16.f (getH (prsH s) (↑x.i : Int).toNat).a)) (lenH (prsH s)) = rfB s p.i ∧ (0 : Int) = (↑(cntA (getH (prsH s)) (getH (prsH s) p.i).a x_1.i) : Int) ∧ (rwV_b s) ∧ (↑(lenH (prsH s)) : Int) = (↑(lenH (prsH s)) : Int) ∧ (↑x.i : Int) = (↑p.i : Int) ∧ (rwV_b s) ∧ (↑(lenH (prsH s)) : Int) = (↑(lenH (prsH s)) : Int) ∧ (0 : Int) = (↑x_1.i : Int) ∧ (((30 : Nat) = (30 : TypeId) ∧ true = true) ∧ (getH (prsH s) (↑x.i : Int).toNat).a.x0 = (getH (prsH s) p.i).a.x0 ∧ (getH (prsH s) (↑x.i : Int).toNat).a.x1 = (getH (prsH s) p.i).a.x1 ∧ (getH (prsH s) (↑x.i : Int).toNat).a.x2 = (getH (prsH s) p.i).a.x2 ∧ (getH (prsH s) (↑x.i : Int).toNat).a.x3 = (getH (prsH s) p.i).a.x3 ∧ (getH (prsH s) (↑x.i : Int).toNat).a.x4 = (getH (prsH s) p.i).a.x4 ∧ (getH (prsH s) (↑x.i : Int).toNat).a.x5 = (getH (prsH s) p.i).a.x5 ∧ (getH (prsH s) (↑x.i : Int).toNat).a.x6 = (getH (prsH s) p.i).a.x6 ∧ (getH (prsH s) (↑x.i : Int).toNat).a.x7 = (getH (prsH s) p.i).a.x7 ∧ (getH (prsH s) (↑x.i : Int).toNat).a.x8 = (getH (prsH s) p.i).a.x8 ∧ (getH (prsH s) (↑x.i : Int).toNat).a.x9 = (getH (prsH s) p.i).a.x9 ∧ (getH (prsH s) (↑x.i : Int).toNat).a.x10 = (getH (prsH s) p.i).a.x10 ∧ (getH (prsH s) (↑x.i : Int).toNat).a.x11 = (getH (prsH s) p.i).a.x11 ∧ (getH (prsH s) (↑x.i : Int).toNat).a.x12 = (getH (prsH s) p.i).a.x12 ∧ (getH (prsH s) (↑x.i : Int).toNat).a.x13 = (getH (prsH s) p.i).a.x13 ∧ (getH (prsH s) (↑x.i : Int).toNat).a.x14 = (getH (prsH s) p.i).a.x14 ∧ (getH (prsH s) (↑x.i : Int).toNat).a.x15 = (getH (prsH s) p.i).a.x15 ∧ ((XV.fz (getH (prsH s) (↑x.i : Int).toNat).q.n 1 fun (j : Nat) => [XT ((getH (prsH s) (↑x.i : Int).toNat).q.g j)]) = XV.fz (getH (prsH s) p.i).q.n 1 fun (j : Nat) => [XT ((getH (prsH s) p.i).q.g j)]) ∧ True) ∧ True) ∧ ∀ (x_1 : IL), x_1.i ≤ lenH (prsH s) ∧ p.i < lenH (prsH s) → (decide ((↑x_1.i : Int) < (↑(lenH (prsH s)) : Int)) = true → (0 : Int) ≤ (↑x_1.i : Int) ∧ (↑x_1.i : Int) < (↑(lenH (prsH s)) : Int) ∧ ((rwV_c s p x_1) = true → in64 ((↑(cntA (getH (prsH s)) (getH (prsH s) p.i).a x_1.i) : Int) + (1 : Int)) ∧ in64 ((↑x_1.i : Int) + (1 : Int)) ∧ ∃ (x' : ({ α := IL, J := rwJ s : InvP }.J p).σ), (x'.i ≤ lenH (prsH s) ∧ p.i < lenH (prsH s)) ∧ lenH (prsH s) - x'.i < lenH (prsH s) - x_1.i ∧ true = true ∧ (rwV_b s) ∧ XV.ptr 0 0 0 0 = XV.ptr 0 0 0 0 ∧ ((XV.fz (lenR (rfL s p.i)) 21 fun (i : Nat) => (recX (getR (rfL s p.i) i))) = XV.fz (lenR (rfL s p.i)) 21 fun (i : Nat) => (recX (getR (rfL s p.i) i))) ∧ rfB s p.i = rfB s p.i ∧ (↑(cntA (getH (prsH s)) (getH (prsH s) p.i).a x_1.i) : Int) + (1 : Int) = (↑(cntA (getH (prsH s)) (getH (prsH s) p.i).a x'.i) : Int) ∧ (rwV_b s) ∧ (↑(lenH (prsH s)) : Int) = (↑(lenH (prsH s)) : Int) ∧ (↑p.i : Int) = (↑p.i : Int) ∧ (rwV_b s) ∧ (↑(lenH (prsH s)) : Int) = (↑(lenH (prsH s)) : Int) ∧ (↑x_1.i : Int) + (1 : Int) = (↑x'.i : Int) ∧ (rwV_d s p) ∧ True) ∧ ((rwV_c s p x_1) = false → in64 ((↑x_1.i : Int) + (1 : Int)) ∧ ∃ (x' : ({ α := IL, J := rwJ s : InvP }.J p).σ), (x'.i ≤ lenH (prsH s) ∧ p.i < lenH (prsH s)) ∧ lenH (prsH s) - x'.i < lenH (prsH s) - x_1.i ∧ true = true ∧ (rwV_b s) ∧ XV.ptr 0 0 0 0 = XV.ptr 0 0 0 0 ∧ ((XV.fz (lenR (rfL s p.i)) 21 fun (i : Nat) => (recX (getR (rfL s p.i) i))) = XV.fz (lenR (rfL s p.i)) 21 fun (i : Nat) => (recX (getR (rfL s p.i) i))) ∧ rfB s p.i = rfB s p.i ∧ (↑(cntA (getH (prsH s)) (getH (prsH s) p.i).a x_1.i) : Int) = (↑(cntA (getH (prsH s)) (getH (prsH s) p.i).a x'.i) : Int) ∧ (rwV_b s) ∧ (↑(lenH (prsH s)) : Int) = (↑(lenH (prsH s)) : Int) ∧ (↑p.i : Int) = (↑p.i : Int) ∧ (rwV_b s) ∧ (↑(lenH (prsH s)) : Int) = (↑(lenH (prsH s)) : Int) ∧ (↑x_1.i : Int) + (1 : Int) = (↑x'.i : Int) ∧ (rwV_d s p) ∧ True)) ∧ (decide ((↑x_1.i : Int) < (↑(lenH (prsH s)) : Int)) = false → ((!(!rfB s p.i || (↑(lenR (rfL s p.i)) : Int) != imin (↑(cntA (getH (prsH s)) (getH (prsH s) p.i).a x_1.i) : Int) 32)) = true → (0 : Int) ≤ (0 : Int)) ∧ ((!(!rfB s p.i || (↑(lenR (rfL s p.i)) : Int) != imin (↑(cntA (getH (prsH s)) (getH (prsH s) p.i).a x_1.i) : Int) 32)) = true → (0 : Int) < (↑(lenR (rfL s p.i)) : Int)) ∧ ((!(rwV_a s p x_1)) = true → ∀ (i : Nat), i < lenH (prsH s) → (hostX (getH (prsH s) i)) = (hostX (getH (prsH s) i))) ∧ ((!(rwV_a s p x_1)) = true → lenH (prsH s) ≤ (1000000 : Nat)) ∧ ((!(rwV_a s p x_1)) = true → ∀ (i : Nat), i < lenH (prsH s) → (1 : Nat) ≤ (getH (prsH s) i).q.n) ∧ ((!(rwV_a s p x_1)) = true → ((0 : Nat) + lenH (prsH s)) * (16 : Nat) ≤ (140737488355328 : Nat)) ∧ ((!(rwV_a s p x_1)) = true → (0 : Nat) + lenH (prsH s) ≤ (140737488355328 : Nat)) ∧ ((!(rwV_a s p x_1)) = true → (0 : Int) ≤ (0 : Int)) ∧ ((!(rwV_a s p x_1)) = true → (0 : Int) < (↑(lenR (rfL s p.i)) : Int)) ∧ ((!(rwV_a s p x_1)) = true → (!(rwV_a s p x_1)) = true) ∧ ((!(rwV_a s p x_1)) = true → (!(rwV_a s p x_1)) = true) ∧ ((!(rwV_a s p x_1)) = true → ∀ (i : Nat), i < (0 : Nat) + lenH (prsH s) → [XT ((getH (prsH s) (i - (0 : Nat))).q.g 0)] = [XT ((getH (prsH s) (i - (0 : Nat))).q.g 0)]) ∧ ((!(rwV_a s p x_1)) = true → (0 : Nat) + lenH (prsH s) ≤ (1000000 : Nat)) ∧ ((!(rwV_a s p x_1)) = true → (!(rwV_a s p x_1)) = true) ∧ ((rwV_a s p x_1) = false → (!(rwV_a s p x_1)) = true) ∧ ((!rfB s p.i || (↑(lenR (rfL s p.i)) : Int) != imin (↑(cntA (getH (prsH s)) (getH (prsH s) p.i).a x_1.i) : Int) 32 || (getR (rfL s p.i) ((0 : Nat))).k != (12 : Int) || !hasF (fun (i : Nat) => (getH (prsH s) (i - (0 : Nat))).q.g 0) (getR (rfL s p.i) ((0 : Nat))).t ((0 : Nat) + lenH (prsH s))) = true → false = true) ∧ ((!rfB s p.i || (↑(lenR (rfL s p.i)) : Int) != imin (↑(cntA (getH (prsH s)) (getH (prsH s) p.i).a x_1.i) : Int) 32 || (getR (rfL s p.i) ((0 : Nat))).k != (12 : Int) || !hasF (fun (i : Nat) => (getH (prsH s) (i - (0 : Nat))).q.g 0) (getR (rfL s p.i) ((0 : Nat))).t ((0 : Nat) + lenH (prsH s))) = false → in64 ((↑p.i : Int) + (1 : Int)) ∧ ∃ (x' : (rwI s).σ), x'.i.le (lenH (prsH s)) ∧ lenH (prsH s) - x'.i < lenH (prsH s) - x.i ∧ true = true ∧ (rwV_b s) ∧ (rwV_b s) ∧ (↑(lenH (prsH s)) : Int) = (↑(lenH (prsH s)) : Int) ∧ (↑p.i : Int) + (1 : Int) = (↑x'.i : Int) ∧ True))) ∧ (decide ((↑x.i : Int) < (↑(lenH (prsH s)) : Int)) = false → true = true)))
theorem rwV_eq (s : ByteArray) : rwV s = (funC cx4 Tryz.f5 (mkSc (rwE s) (bodyOf Tryz.f5)) [XT s] (XB true)) := by kernel_rfl
theorem nz_v (q : Sq Hst) (hq : q.n ≤ 1000000) (h1 : ∀ i, i < q.n → 1 ≤ (q.g i).q.n) : nzV q := by
 unfold nzV
 refine ⟨⟨⟨0⟩, Nat.zero_le _, rfl, rfl, rfl, rfl, rfl, ⟨⟨rfl, rfl, rfl⟩, rfl, fun j hj => absurd hj (Nat.not_lt_zero _)⟩, trivial⟩, ?_⟩
 rintro ⟨i⟩ hi
 have hi : i ≤ q.n := hi
 dsimp only
 refine ⟨fun h => ?_, fun h => ?_⟩
 ·have h : (i : Int) < q.n := of_decide_eq_true h
  have h2 := h1 i (by omega)
  rw [Int.toNat_natCast]
  refine ⟨by omega, h, by decide, by omega, rfl, by omega, by omega, by unfold in64; omega, ⟨i + 1⟩, (show i + 1 ≤ q.n by omega), (show q.n - (i + 1) < q.n - i by omega), rfl, rfl, rfl, rfl, rfl, ⟨⟨rfl, rfl, rfl⟩, rfl, fun j hj => ?_⟩, trivial⟩
  rw [bltN]
  by_cases e : j < i
  ·rw [decide_eq_true e]; rfl
  ·rw [decide_eq_false e, show j = i by omega]; rfl
 ·have h : ¬ (i : Int) < q.n := of_decide_eq_false h
  obtain rfl : i = q.n := by omega
  exact ⟨⟨rfl, rfl⟩, rfl, rfl, fun _ _ => rfl⟩
theorem names_ok : CTok Tryz.prog 16 namesC := C1_ok cx0_ok Tryz.func16 rfl (by decide) dSl_ok (by kernel_rfl) (fun _ => rfl) fun q hc => exv (nzV_eq q) (nz_v q (hc _ (.head _)) (hc _ (.tail _ (.head _))))
theorem cx4_ok : cx4.ok Tryz.prog := (((((((cx0_ok.addC has_ok).addC names_ok).addC rev_ok).addC fn_ok).addC prs_ok).addC lig_ok).addC hfit_ok).setK true
theorem eqA_iff (a b : A16) : eqA a b = true ↔ a = b := by
 constructor
 ·intro h
  obtain ⟨⟩ := a
  obtain ⟨⟩ := b
  simpa [eqA, and_assoc] using h
 ·rintro rfl
  simp [eqA]
theorem A16_ext {a b : A16} (h : ∀ k, k < 16 → a.f k = b.f k) : a = b := by
 obtain ⟨⟩ := a
 obtain ⟨⟩ := b
 have h0 := h 0 (by omega)
 have h1 := h 1 (by omega)
 have h2 := h 2 (by omega)
 have h3 := h 3 (by omega)
 have h4 := h 4 (by omega)
 have h5 := h 5 (by omega)
 have h6 := h 6 (by omega)
 have h7 := h 7 (by omega)
 have h8 := h 8 (by omega)
 have h9 := h 9 (by omega)
 have h10 := h 10 (by omega)
 have h11 := h 11 (by omega)
 have h12 := h 12 (by omega)
 have h13 := h 13 (by omega)
 have h14 := h 14 (by omega)
 have h15 := h 15 (by omega)
 simp only [A16.f, List.getD_eq_getElem?_getD, List.getElem?_cons_zero, List.getElem?_cons_succ, Option.getD_some] at h0 h1 h2 h3 h4 h5 h6 h7 h8 h9 h10 h11 h12 h13 h14 h15
 subst h0 h1 h2 h3 h4 h5 h6 h7 h8 h9 h10 h11 h12 h13 h14 h15
 rfl
theorem rev_eqA {a b : A16} (ha : b16 a.f) (hb : b16 b.f) : rev a.f = rev b.f ↔ eqA a b = true := by
 rw [eqA_iff]
 exact ⟨fun h => A16_ext (rev_inj _ _ ha hb h), fun h => by rw [h]⟩
theorem fndO_12 (h : Hst) (n : ByteArray) : fndO h n 12 = if rev h.a.f = n then [⟨n, 12, 0, z16, h.q.g 0, ⟨#[]⟩⟩] else [] := by
 unfold fndO
 by_cases e : rev h.a.f = n
 ·rw [if_pos e, if_pos e, if_pos (by decide)]
 ·rw [if_neg e, if_neg e]
  have : kdB h 12 = false := by unfold kdB; simp
  rw [this]
  split <;> rfl
theorem fndN_12 (g : Nat → Hst) (a : A16) (m : Nat) (ha : b16 a.f) (hg : ∀ i, i < m → b16 (g i).a.f) : ∀ j, j ≤ m → lenR (fndN g (rev a.f) 12 j) = cntA g a j
 | 0, _ => rfl
 | j + 1, h => by
  have ih := fndN_12 g a m ha hg j (by omega)
  rw [fndN, fndO_12, cntA]
  by_cases e : rev (g j).a.f = rev a.f
  ·rw [if_pos e, if_pos ((rev_eqA (hg j (by omega)) ha).1 e), ← ih]
   unfold lenR
   rw [List.length_append]
   rfl
  ·rw [if_neg e, if_neg (fun k => e ((rev_eqA (hg j (by omega)) ha).2 k)), List.append_nil, ih]
theorem fndN_t (g : Nat → Hst) (n : ByteArray) : ∀ m, ∀ r ∈ fndN g n 12 m, r.k = 12 ∧ ∃ j, j < m ∧ r.t = (g j).q.g 0
 | 0, r, h => by cases h
 | m + 1, r, h => by
  rw [fndN] at h
  rcases List.mem_append.1 h with h | h
  ·obtain ⟨h1, j, hj, e⟩ := fndN_t g n m r h
   exact ⟨h1, j, by omega, e⟩
  ·rw [fndO_12] at h
   split at h
   ·obtain rfl := List.mem_singleton.1 h
    exact ⟨rfl, m, by omega, rfl⟩
   ·cases h
theorem fndB_at (g : Nat → Hst) (n : ByteArray) : ∀ m i, i < m → rev (g i).a.f = n → fndB g n m = true
 | m + 1, i, h, e => by
  rw [fndB, fndT]
  by_cases k : i = m
  ·rw [← k, decide_eq_true e, Bool.true_or, Bool.or_true]
  ·rw [fndB_at g n m i (by omega) e, Bool.true_or]
theorem hasF_at (g : Nat → ByteArray) (s : ByteArray) (n j : Nat) (h : j < n) (e : g j = s) : hasF g s n = true :=
 hasF_mono g s n (j + 1) (by omega) (by rw [hasF, decide_eq_true e, Bool.or_true])
theorem cntA_pos (g : Nat → Hst) : ∀ m i, i < m → 1 ≤ cntA g (g i).a m
 | m + 1, i, h => by
  rw [cntA]
  by_cases k : i = m
  ·rw [k, if_pos ((eqA_iff _ _).2 rfl)]; omega
  ·have := cntA_pos g m i (by omega)
   split <;> omega
theorem cntA_le (g : Nat → Hst) (a : A16) : ∀ m, cntA g a m ≤ m
 | 0 => Nat.le_refl _
 | m + 1 => by
  have := cntA_le g a m
  rw [cntA]
  split <;> omega
theorem rw_v (s : ByteArray) : rwV s := by
 unfold rwV rwV_d rwV_c rwV_b rwV_a
 refine ⟨fun h => absurd h (by decide), fun _ => ⟨fun _ => rfl, fun h => ?_⟩⟩
 have h1 : decide ((s.size : Int) ≤ 2000) = true := by simpa using h
 have h1 : (s.size : Int) ≤ 2000 := of_decide_eq_true h1
 have h64 := prsH_len s
 have hf := prsH_fn s (by omega)
 refine ⟨by omega, ⟨⟨0⟩, Nat.zero_le _, rfl, rfl, rfl, rfl, rfl, trivial⟩, ?_⟩
 rintro ⟨i⟩ hi
 have hi : i ≤ lenH (prsH s) := hi
 dsimp only
 refine ⟨fun h2 => ?_, fun _ => rfl⟩
 have h2 : (i : Int) < lenH (prsH s) := of_decide_eq_true h2
 rw [Int.toNat_natCast]
 have hil : i < lenH (prsH s) := by omega
 have hN : lenR (rfL s i) = min 32 (cntA (getH (prsH s)) (getH (prsH s) i).a (lenH (prsH s))) := by
  have := fndN_12 (getH (prsH s)) (getH (prsH s) i).a (lenH (prsH s)) (hf i hil).1 (fun k hk => (hf k hk).1) _ (Nat.le_refl _)
  unfold rfL fndR
  rw [← this]
  unfold lenR
  rw [List.length_take]
  rfl
 have hc1 := cntA_pos (getH (prsH s)) (lenH (prsH s)) i hil
 have hB : rfB s i = true := fndB_at _ _ _ i hil rfl
 refine ⟨by omega, h2, (hf i hil).1, fun _ _ => rfl, by omega, hf, ⟨i⟩, ⟨⟨0⟩, ⟨Nat.zero_le _, hil⟩, rfl, rfl, rfl, rfl, rfl, rfl, rfl, rfl, rfl, rfl, rfl, rfl, ⟨⟨rfl, rfl⟩, rfl, rfl, rfl, rfl, rfl, rfl, rfl, rfl, rfl, rfl, rfl, rfl, rfl, rfl, rfl, rfl, rfl, trivial⟩, trivial⟩, ?_⟩
 rintro ⟨j⟩ ⟨hj, -⟩
 have hj : j ≤ lenH (prsH s) := hj
 dsimp only
 have hcj := cntA_le (getH (prsH s)) (getH (prsH s) i).a j
 refine ⟨fun h3 => ?_, fun h3 => ?_⟩
 ·have h3 : (j : Int) < lenH (prsH s) := of_decide_eq_true h3
  rw [Int.toNat_natCast]
  refine ⟨by omega, h3, fun h4 => ?_, fun h4 => ?_⟩
  ·have e : cntA (getH (prsH s)) (getH (prsH s) i).a (j + 1) = cntA (getH (prsH s)) (getH (prsH s) i).a j + 1 := by rw [cntA, if_pos (show eqA (getH (prsH s) j).a (getH (prsH s) i).a = true from h4)]
   exact ⟨by unfold in64; omega, by unfold in64; omega, ⟨j + 1⟩, ⟨(show j + 1 ≤ lenH (prsH s) by omega), hil⟩, (show lenH (prsH s) - (j + 1) < lenH (prsH s) - j by omega), rfl, rfl, rfl, rfl, rfl, (by rw [e]; rfl), rfl, rfl, rfl, rfl, rfl, rfl, ⟨⟨rfl, rfl⟩, rfl, rfl, rfl, rfl, rfl, rfl, rfl, rfl, rfl, rfl, rfl, rfl, rfl, rfl, rfl, rfl, rfl, trivial⟩, trivial⟩
  ·have e : cntA (getH (prsH s)) (getH (prsH s) i).a (j + 1) = cntA (getH (prsH s)) (getH (prsH s) i).a j := by rw [cntA, if_neg (by rw [show eqA (getH (prsH s) j).a (getH (prsH s) i).a = false from h4]; decide)]
   exact ⟨by unfold in64; omega, ⟨j + 1⟩, ⟨(show j + 1 ≤ lenH (prsH s) by omega), hil⟩, (show lenH (prsH s) - (j + 1) < lenH (prsH s) - j by omega), rfl, rfl, rfl, rfl, rfl, (by rw [e]), rfl, rfl, rfl, rfl, rfl, rfl, ⟨⟨rfl, rfl⟩, rfl, rfl, rfl, rfl, rfl, rfl, rfl, rfl, rfl, rfl, rfl, rfl, rfl, rfl, rfl, rfl, rfl, trivial⟩, trivial⟩
 ·have h3 : ¬ (j : Int) < lenH (prsH s) := of_decide_eq_false h3
  obtain rfl : j = lenH (prsH s) := by omega
  have hm : imin ((cntA (getH (prsH s)) (getH (prsH s) i).a (lenH (prsH s)) : Nat) : Int) 32 = ((lenR (rfL s i) : Nat) : Int) := by rw [hN]; unfold imin; split <;> omega
  have hr : 0 < lenR (rfL s i) := by omega
  obtain ⟨hk, j0, hj0, ht⟩ := fndN_t _ _ _ _ (fndR_mem (getR_mem (l := rfL s i) (i := 0) hr))
  have q1 : (!rfB s i || ((lenR (rfL s i) : Nat) : Int) != imin ((cntA (getH (prsH s)) (getH (prsH s) i).a (lenH (prsH s)) : Nat) : Int) 32) = false := by rw [hB, hm]; simp
  have q2 : (!rfB s i || ((lenR (rfL s i) : Nat) : Int) != imin ((cntA (getH (prsH s)) (getH (prsH s) i).a (lenH (prsH s)) : Nat) : Int) 32 || (getR (rfL s i) 0).k != 12) = false := by rw [q1, hk]; rfl
  have q3 : hasF (fun i => (getH (prsH s) (i - 0)).q.g 0) (getR (rfL s i) 0).t (0 + lenH (prsH s)) = true := hasF_at _ _ _ j0 (by rw [Nat.zero_add]; exact hj0) ht.symm
  refine ⟨fun _ => by decide, fun _ => by omega, fun _ _ _ => rfl, fun _ => by omega, fun _ k hk => (hf k hk).2.1, fun _ => by omega, fun _ => by omega, fun _ => by decide, fun _ => by omega, fun h => h, fun h => h, fun _ _ _ => rfl, fun _ => by omega, fun h => h, fun h => by rw [h]; rfl, fun h => ?_, fun _ => ⟨by unfold in64; omega, ⟨i + 1⟩, (show i + 1 ≤ lenH (prsH s) by omega), (show lenH (prsH s) - (i + 1) < lenH (prsH s) - i by omega), rfl, rfl, rfl, rfl, rfl, trivial⟩⟩
  rw [q2, q3] at h
  exact absurd h (by decide)
theorem hrevs_ok : CTok Tryz.prog 5 (C1 dStr (fun _ => []) fun _ => XB true) := C1_ok cx4_ok Tryz.func5 rfl (by decide) dStr_eq.ok (by kernel_rfl) (fun _ => rfl) fun s _ => exv (rwV_eq s) (rw_v s)
end Go.Proofs.YtkjcoehblekpdaaGreatDoorAv
namespace Go.Proofs.YtkjcoehblekpdaaGreatDoorAv
open Go Go.RowKit
theorem sp_mid (c : UInt8) (A : List (List UInt8)) : ∀ (Y X x : List UInt8), c ∉ Y → split1 c X = A ++ [x] → split1 c (X ++ Y) = A ++ [x ++ Y]
 | [], X, x, _, h => by rw [List.append_nil, List.append_nil]; exact h
 | b :: Y, X, x, hc, h => by
  have hb : b ≠ c := fun e => hc (by rw [e]; exact .head _)
  have h1 := split1_snoc c b X A x h
  rw [if_neg hb] at h1
  have := sp_mid c A Y (X ++ [b]) (x ++ [b]) (fun k => hc (.tail _ k)) h1
  rw [List.append_assoc, List.append_assoc] at this
  exact this
theorem sp_line (c : UInt8) (A : List (List UInt8)) (X Y : List UInt8) (hc : c ∉ Y) (h : split1 c X = A ++ [[]]) : split1 c (X ++ (Y ++ [c])) = (A ++ [Y]) ++ [[]] := by
 have h1 := sp_mid c A Y X [] hc h
 rw [List.nil_append] at h1
 have h2 := split1_snoc c c (X ++ Y) A Y h1
 rw [if_pos rfl, List.append_assoc] at h2
 rw [h2, List.append_assoc]
 rfl
theorem lnsL_all {α : Type} (f : α → ByteArray) (l : List α) (h : ∀ x ∈ l, lnOk (words (f x)) = true) : lnsL (l.map f) = l.map fun x => lnH (words (f x)) := by
 unfold lnsL
 rw [List.filter_eq_self.2, List.map_map]
 ·rfl
 ·intro b hb
  obtain ⟨x, hx, rfl⟩ := List.mem_map.1 hb
  exact h x hx
theorem lnsL_end : lnsL [mk8 []] = [] := by
 have e : words (mk8 []) = [] := rfl
 unfold lnsL
 rw [List.filter_cons, if_neg (by rw [e]; decide)]
 rfl
end Go.Proofs.YtkjcoehblekpdaaGreatDoorAv
namespace Go.Proofs.YtkjcoehblekpdaaGreatDoorAv
open Go Go.RowKit
def manyN (n : Int) : Int := bits .and .i64 n 127
theorem wrap64 (k : Nat) (h : k < 9223372036854775808) : IntKind.i64.wrap (k : Int) = k := by
 have e : (k : Int) % 2 ^ 64 = k := Int.emod_eq_of_lt (by omega) (by omega)
 simp only [IntKind.wrap, IntKind.bits, IntKind.signed, e]
 rw [if_neg]
 simp
 omega
theorem and127 (n : Int) : ∃ k : Nat, k < 128 ∧ bits .and .i64 n 127 = (k : Int) := by
 have hle : (BitVec.ofInt 64 n &&& BitVec.ofInt 64 127).toNat ≤ 127 := by
  rw [BitVec.toNat_and]
  exact Nat.and_le_right
 refine ⟨(BitVec.ofInt 64 n &&& BitVec.ofInt 64 127).toNat, by omega, ?_⟩
 show IntKind.i64.wrap ((BitVec.ofInt 64 n &&& BitVec.ofInt 64 127).toNat : Int) = _
 exact wrap64 _ (by omega)
def dgL (i : Nat) : List UInt8 := if i < 10 then [UInt8.ofNat (48 + i)] else if i < 100 then [UInt8.ofNat (48 + i / 10), UInt8.ofNat (48 + i % 10)] else [UInt8.ofNat (48 + i / 100), UInt8.ofNat (48 + i / 10 % 10), UInt8.ofNat (48 + i % 10)]
def lineL (i : Nat) : List UInt8 := [49, 48, 46, 48, 46, 48, 46] ++ dgL i ++ [32, 104, 111, 115, 116]
def txL : Nat → List UInt8
 | 0 => []
 | i + 1 => txL i ++ (lineL i ++ [10])
def txM (i : Nat) : ByteArray := mk8 (txL i)
def hostT : ByteArray := ⟨#[104, 111, 115, 116]⟩
def cx5 : Cx := { cx0 with C := [(9, hfitC), (11, prsC), (12, fnC), (13, v4C)] }
theorem cx5_ok : cx5.ok Tryz.prog := (((cx0_ok.addC v4_ok).addC fn_ok).addC prs_ok).addC hfit_ok
def maI (n : Int) : Inv where
 σ := IL
 S := fun x => ⟨[(0, XI (manyN n)), (3, XT (txM x.i)), (12, XI (manyN n)), (13, XI x.i)], [], 0, false, []⟩
 inv := fun x => x.i ≤ (manyN n).toNat
 μ := fun x => (manyN n).toNat - x.i
def maE (n : Int) : Env := { loops := [(0, maI n)] }
def maV_a (n : Int) (x : IL) :=
 (manyN n == (0 : Int) || (getR (fndR { n := lenH (prsH (txM x.i)), g := getH (prsH (txM x.i)) : Sq Hst } ⟨#[104, 111, 115, 116]⟩ 1) ((0 : Nat))).a.x0 == Int.ofNat ((0 : Nat)) && ((getR (fndR { n := lenH (prsH (txM x.i)), g := getH (prsH (txM x.i)) : Sq Hst } ⟨#[104, 111, 115, 116]⟩ 1) ((0 : Nat))).a.x1 == Int.ofNat ((0 : Nat)) && ((getR (fndR { n := lenH (prsH (txM x.i)), g := getH (prsH (txM x.i)) : Sq Hst } ⟨#[104, 111, 115, 116]⟩ 1) ((0 : Nat))).a.x2 == Int.ofNat ((0 : Nat)) && ((getR (fndR { n := lenH (prsH (txM x.i)), g := getH (prsH (txM x.i)) : Sq Hst } ⟨#[104, 111, 115, 116]⟩ 1) ((0 : Nat))).a.x3 == Int.ofNat ((0 : Nat)) && ((getR (fndR { n := lenH (prsH (txM x.i)), g := getH (prsH (txM x.i)) : Sq Hst } ⟨#[104, 111, 115, 116]⟩ 1) ((0 : Nat))).a.x4 == Int.ofNat ((0 : Nat)) && ((getR (fndR { n := lenH (prsH (txM x.i)), g := getH (prsH (txM x.i)) : Sq Hst } ⟨#[104, 111, 115, 116]⟩ 1) ((0 : Nat))).a.x5 == Int.ofNat ((0 : Nat)) && ((getR (fndR { n := lenH (prsH (txM x.i)), g := getH (prsH (txM x.i)) : Sq Hst } ⟨#[104, 111, 115, 116]⟩ 1) ((0 : Nat))).a.x6 == Int.ofNat ((0 : Nat)) && ((getR (fndR { n := lenH (prsH (txM x.i)), g := getH (prsH (txM x.i)) : Sq Hst } ⟨#[104, 111, 115, 116]⟩ 1) ((0 : Nat))).a.x7 == Int.ofNat ((0 : Nat)) && ((getR (fndR { n := lenH (prsH (txM x.i)), g := getH (prsH (txM x.i)) : Sq Hst } ⟨#[104, 111, 115, 116]⟩ 1) ((0 : Nat))).a.x8 == Int.ofNat ((0 : Nat)) && ((getR (fndR { n := lenH (prsH (txM x.i)), g := getH (prsH (txM x.i)) : Sq Hst } ⟨#[104, 111, 115, 116]⟩ 1) ((0 : Nat))).a.x9 == Int.ofNat ((0 : Nat)) && ((getR (fndR { n := lenH (prsH (txM x.i)), g := getH (prsH (txM x.i)) : Sq Hst } ⟨#[104, 111, 115, 116]⟩ 1) ((0 : Nat))).a.x10 == Int.ofNat ((255 : Nat)) && ((getR (fndR { n := lenH (prsH (txM x.i)), g := getH (prsH (txM x.i)) : Sq Hst } ⟨#[104, 111, 115, 116]⟩ 1) ((0 : Nat))).a.x11 == Int.ofNat ((255 : Nat)) && ((getR (fndR { n := lenH (prsH (txM x.i)), g := getH (prsH (txM x.i)) : Sq Hst } ⟨#[104, 111, 115, 116]⟩ 1) ((0 : Nat))).a.x12 == Int.ofNat ((10 : Nat)) && ((getR (fndR { n := lenH (prsH (txM x.i)), g := getH (prsH (txM x.i)) : Sq Hst } ⟨#[104, 111, 115, 116]⟩ 1) ((0 : Nat))).a.x13 == Int.ofNat ((0 : Nat)) && ((getR (fndR { n := lenH (prsH (txM x.i)), g := getH (prsH (txM x.i)) : Sq Hst } ⟨#[104, 111, 115, 116]⟩ 1) ((0 : Nat))).a.x14 == Int.ofNat ((0 : Nat)) && ((getR (fndR { n := lenH (prsH (txM x.i)), g := getH (prsH (txM x.i)) : Sq Hst } ⟨#[104, 111, 115, 116]⟩ 1) ((0 : Nat))).a.x15 == Int.ofNat ((0 : Nat)) && true))))))))))))))))
def maV_b (x : IL) :=
 (mput (mput [] (MK.b true) (Value.int IntKind.i64 2)) (MK.b false) (Value.int IntKind.i64 (mgI (mput (mput [] (MK.b true) (Value.int IntKind.i64 1)) (MK.b false) (Value.int IntKind.i64 0)) (MK.b (decide ((↑x.i : Int) < (100 : Int)))))))
def maV_e (x : IL) (j : Nat) :=
 ([IntKind.u8.wrap ((48 : Int) + IntKind.i64.wrap ((↑x.i : Int).tdiv 100)), IntKind.u8.wrap ((48 : Int) + (IntKind.i64.wrap ((↑x.i : Int).tdiv 10)).tmod 10), IntKind.u8.wrap ((48 : Int) + (↑x.i : Int).tmod 10)].getD ((mgI (maV_b x) (MK.b (decide ((↑x.i : Int) < (10 : Int))))).toNat + j) 0)
def maV_f (x : IL) :=
 (⟨#[49, 48, 46, 48, 46, 48, 46]⟩ ++ txtOf ((↑(3 : Nat) : Int) - mgI (maV_b x) (MK.b (decide ((↑x.i : Int) < (10 : Int))))).toNat fun (j : Nat) => { toBitVec := BitVec.ofNat 8 (maV_e x j).toNat : UInt8 })
def maV_g (n : Int) (x : IL) :=
 (↑(lenR (fndR { n := lenH (prsH (txM x.i)), g := getH (prsH (txM x.i)) : Sq Hst } ⟨#[104, 111, 115, 116]⟩ 1)) : Int)
def maV_c (n : Int) (x : IL) :=
 ((↑(lenH (prsH (txM x.i))) : Int) == imin (manyN n) 64 && (maV_g n x) == imin (imin (manyN n) 32) 64 && fndB (getH (prsH (txM x.i))) ⟨#[104, 111, 115, 116]⟩ (lenH (prsH (txM x.i))) == decide (manyN n > (0 : Int)) && (maV_a n x) && !decide (manyN n < (2 : Int)))
def maV_d (n : Int) (x : IL) :=
 ((↑(lenH (prsH (txM x.i))) : Int) == imin (manyN n) 64 && (maV_g n x) == imin (imin (manyN n) 32) 64 && fndB (getH (prsH (txM x.i))) ⟨#[104, 111, 115, 116]⟩ (lenH (prsH (txM x.i))) == decide (manyN n > (0 : Int)) && (maV_a n x))
def maV (n : Int) : Prop :=
 ((!true) = true → false = true) ∧ ((!true) = false → (∃ (x : (maI n).σ), x.i.le (manyN n).toNat ∧ true = true ∧ bits BinOp.and IntKind.i64 n 127 = manyN n ∧ ⟨#[]⟩ = txM x.i ∧ bits BinOp.and IntKind.i64 n 127 = manyN n ∧ (0 : Int) = (↑x.i : Int) ∧ True) ∧ ∀ (x : IL), x.i.le (manyN n).toNat → (decide ((↑x.i : Int) < manyN n) = true → (100 : Int) ≠ (0 : Int) ∧ in64 ((48 : Int) + IntKind.i64.wrap ((↑x.i : Int).tdiv 100)) ∧ (10 : Int) ≠ (0 : Int) ∧ (10 : Int) ≠ (0 : Int) ∧ in64 ((48 : Int) + (IntKind.i64.wrap ((↑x.i : Int).tdiv 10)).tmod 10) ∧ (10 : Int) ≠ (0 : Int) ∧ in64 ((48 : Int) + (↑x.i : Int).tmod 10) ∧ mokK TypeDesc.bool [] ∧ mokK TypeDesc.bool [] ∧ mokK TypeDesc.bool (mput [] (MK.b true) (Value.int IntKind.i64 1)) ∧ (0 : Int) = (0 : Int) ∧ mokI TypeDesc.bool IntKind.i64 (mput (mput [] (MK.b true) (Value.int IntKind.i64 1)) (MK.b false) (Value.int IntKind.i64 0)) ∧ mokK TypeDesc.bool (mput [] (MK.b true) (Value.int IntKind.i64 2)) ∧ (0 : Int) = (0 : Int) ∧ mokI TypeDesc.bool IntKind.i64 (maV_b x) ∧ (0 : Int) ≤ mgI (maV_b x) (MK.b (decide ((↑x.i : Int) < (10 : Int)))) ∧ mgI (maV_b x) (MK.b (decide ((↑x.i : Int) < (10 : Int)))) ≤ (↑(3 : Nat) : Int) ∧ (↑(3 : Nat) : Int) ≤ (↑(3 : Nat) : Int) ∧ (∀ (j : Nat), j < ((↑(3 : Nat) : Int) - mgI (maV_b x) (MK.b (decide ((↑x.i : Int) < (10 : Int))))).toNat → [X8 (maV_e x j)] = [X8 (↑{ toBitVec := BitVec.ofNat 8 (maV_e x j).toNat : UInt8 }.toNat : Int)]) ∧ (7 : Nat) + (txtOf ((↑(3 : Nat) : Int) - mgI (maV_b x) (MK.b (decide ((↑x.i : Int) < (10 : Int))))).toNat fun (j : Nat) => { toBitVec := BitVec.ofNat 8 (maV_e x j).toNat : UInt8 }).size ≤ (9223372036854775807 : Nat) ∧ (maV_f x).size + (6 : Nat) ≤ (9223372036854775807 : Nat) ∧ (txM x.i).size + ((maV_f x) ++ ⟨#[32, 104, 111, 115, 116, 10]⟩).size ≤ (9223372036854775807 : Nat) ∧ in64 ((↑x.i : Int) + (1 : Int)) ∧ ∃ (x' : (maI n).σ), x'.i.le (manyN n).toNat ∧ (manyN n).toNat - x'.i < (manyN n).toNat - x.i ∧ true = true ∧ manyN n = manyN n ∧ txM x.i ++ ((maV_f x) ++ ⟨#[32, 104, 111, 115, 116, 10]⟩) = txM x'.i ∧ manyN n = manyN n ∧ (↑x.i : Int) + (1 : Int) = (↑x'.i : Int) ∧ True) ∧ (decide ((↑x.i : Int) < manyN n) = false → (txM x.i).size ≤ (1000000 : Nat) ∧ (∀ (i : Nat), i < lenH (prsH (txM x.i)) → (hostX (getH (prsH (txM x.i)) i)) = (hostX (getH (prsH (txM x.i)) i))) ∧ lenH (prsH (txM x.i)) ≤ (1000000 : Nat) ∧ (∀ (i : Nat), i < lenH (prsH (txM x.i)) → b16 (getH (prsH (txM x.i)) i).a.f ∧ (1 : Nat) ≤ (getH (prsH (txM x.i)) i).q.n ∧ (getH (prsH (txM x.i)) i).q.n ≤ (1000000 : Nat)) ∧ (((↑(lenH (prsH (txM x.i))) : Int) == imin (manyN n) 64 && (maV_g n x) == imin (imin (manyN n) 32) 64 && fndB (getH (prsH (txM x.i))) ⟨#[104, 111, 115, 116]⟩ (lenH (prsH (txM x.i))) == decide (manyN n > (0 : Int)) && !manyN n == (0 : Int)) = true → (0 : Int) ≤ (0 : Int)) ∧ (((↑(lenH (prsH (txM x.i))) : Int) == imin (manyN n) 64 && (maV_g n x) == imin (imin (manyN n) 32) 64 && fndB (getH (prsH (txM x.i))) ⟨#[104, 111, 115, 116]⟩ (lenH (prsH (txM x.i))) == decide (manyN n > (0 : Int)) && !manyN n == (0 : Int)) = true → (0 : Int) < (maV_g n x)) ∧ ((maV_c n x) = true → (0 : Int) ≤ (1 : Int)) ∧ ((maV_c n x) = true → (1 : Int) < (↑(lenH (prsH (txM x.i))) : Int)) ∧ ((maV_c n x) = true → (maV_c n x) = true) ∧ ((maV_c n x) = true → (maV_c n x) = true) ∧ ((maV_d n x) = true → (maV_d n x) = true) ∧ ((maV_d n x) = true → decide (manyN n < (2 : Int)) = false → (maV_c n x) = true) ∧ ((maV_d n x) = true → (maV_d n x) = true) ∧ ((↑(lenH (prsH (txM x.i))) : Int) == imin (manyN n) 64 && (maV_g n x) == imin (imin (manyN n) 32) 64 && fndB (getH (prsH (txM x.i))) ⟨#[104, 111, 115, 116]⟩ (lenH (prsH (txM x.i))) == decide (manyN n > (0 : Int)) && (maV_a n x) && (decide (manyN n < (2 : Int)) || (getH (prsH (txM x.i)) ((1 : Nat))).a.x0 == Int.ofNat ((0 : Nat)) && ((getH (prsH (txM x.i)) ((1 : Nat))).a.x1 == Int.ofNat ((0 : Nat)) && ((getH (prsH (txM x.i)) ((1 : Nat))).a.x2 == Int.ofNat ((0 : Nat)) && ((getH (prsH (txM x.i)) ((1 : Nat))).a.x3 == Int.ofNat ((0 : Nat)) && ((getH (prsH (txM x.i)) ((1 : Nat))).a.x4 == Int.ofNat ((0 : Nat)) && ((getH (prsH (txM x.i)) ((1 : Nat))).a.x5 == Int.ofNat ((0 : Nat)) && ((getH (prsH (txM x.i)) ((1 : Nat))).a.x6 == Int.ofNat ((0 : Nat)) && ((getH (prsH (txM x.i)) ((1 : Nat))).a.x7 == Int.ofNat ((0 : Nat)) && ((getH (prsH (txM x.i)) ((1 : Nat))).a.x8 == Int.ofNat ((0 : Nat)) && ((getH (prsH (txM x.i)) ((1 : Nat))).a.x9 == Int.ofNat ((0 : Nat)) && ((getH (prsH (txM x.i)) ((1 : Nat))).a.x10 == Int.ofNat ((255 : Nat)) && ((getH (prsH (txM x.i)) ((1 : Nat))).a.x11 == Int.ofNat ((255 : Nat)) && ((getH (prsH (txM x.i)) ((1 : Nat))).a.x12 == Int.ofNat ((10 : Nat)) && ((getH (prsH (txM x.i)) ((1 : Nat))).a.x13 == Int.ofNat ((0 : Nat)) && ((getH (prsH (txM x.i)) ((1 : Nat))).a.x14 == Int.ofNat ((0 : Nat)) && ((getH (prsH (txM x.i)) ((1 : Nat))).a.x15 == Int.ofNat ((1 : Nat)) && true))))))))))))))))) = true))
theorem maV_eq (n : Int) : maV n = (funC cx5 Tryz.f4 (mkSc (maE n) (bodyOf Tryz.f4)) [XI n] (XB true)) := by kernel_rfl
theorem ma_k : ∀ i : Fin 128, mgI (maV_b ⟨i.val⟩) (MK.b (decide ((i.val : Int) < 10))) = ((if i.val < 10 then 2 else if i.val < 100 then 1 else 0 : Nat) : Int) := by decide +kernel
theorem ma_e : ∀ i : Fin 128, ∀ j : Fin 3, 0 ≤ maV_e ⟨i.val⟩ j.val ∧ maV_e ⟨i.val⟩ j.val ≤ 255 := by decide +kernel
theorem ma_t : ∀ i : Fin 128, ((List.range (3 - (if i.val < 10 then 2 else if i.val < 100 then 1 else 0))).map fun j => UInt8.ofNat (maV_e ⟨i.val⟩ j).toNat) = dgL i.val := by decide +kernel
theorem ma_q : ∀ i : Fin 128, in64 (48 + IntKind.i64.wrap ((i.val : Int).tdiv 100)) ∧ in64 (48 + (IntKind.i64.wrap ((i.val : Int).tdiv 10)).tmod 10) ∧ in64 (48 + (i.val : Int).tmod 10) := by unfold in64; decide +kernel
theorem ma_l : ∀ i : Fin 128, lnOk (words (mk8 (lineL i.val))) = true ∧ decide (rev (lnH (words (mk8 (lineL i.val)))).a.f = hostT) = false ∧ hasF (lnH (words (mk8 (lineL i.val)))).q.g hostT (lnH (words (mk8 (lineL i.val)))).q.n = true ∧ is4 (lnH (words (mk8 (lineL i.val)))).a.f = true ∧ (10 : UInt8) ∉ lineL i.val ∧ (lineL i.val).length ≤ 15 := by decide +kernel
def maA (d : Int) : A16 := ⟨0, 0, 0, 0, 0, 0, 0, 0, 0, 0, 255, 255, 10, 0, 0, d⟩
theorem ma_0 : (lnH (words (mk8 (lineL 0)))).a = maA 0 := (eqA_iff _ _).1 (by decide +kernel)
theorem ma_1 : (lnH (words (mk8 (lineL 1)))).a = maA 1 := (eqA_iff _ _).1 (by decide +kernel)
theorem txL_split : ∀ K, K ≤ 128 → split1 10 (txL K) = (List.range K).map lineL ++ [[]]
 | 0, _ => rfl
 | K + 1, h => by
  rw [txL, sp_line 10 _ _ _ (ma_l ⟨K, by omega⟩).2.2.2.2.1 (txL_split K (by omega)), List.range_succ, List.map_append]
  rfl
theorem txL_len : ∀ K, K ≤ 128 → (txL K).length ≤ K * 16
 | 0, _ => Nat.le_refl _
 | K + 1, h => by
  have h1 := txL_len K (by omega)
  have h2 := (ma_l ⟨K, by omega⟩).2.2.2.2.2
  have h2 : (lineL K).length ≤ 15 := h2
  rw [txL, List.length_append, List.length_append, List.length_singleton]
  omega
theorem prsH_tx (K : Nat) (h : K ≤ 128) : prsH (txM K) = ((List.range K).map fun i => lnH (words (mk8 (lineL i)))).take 64 := by
 have hl : linesS (txM K) = ((List.range K).map fun i => mk8 (lineL i)) ++ [mk8 []] := by
  unfold linesS txM
  rw [splitS_one, mk8_data, txL_split K h, List.map_append, List.map_map]
  rfl
 have ha : ∀ i ∈ List.range K, lnOk (words (mk8 (lineL i))) = true := fun i hi => (ma_l ⟨i, by have := List.mem_range.1 hi; omega⟩).1
 rw [prsH_eq, hl, lnsL_app, lnsL_end, List.append_nil, lnsL_all (fun i => mk8 (lineL i)) _ ha]
theorem lenH_tx (K : Nat) (h : K ≤ 128) : lenH (prsH (txM K)) = min K 64 := by
 rw [prsH_tx K h]
 show (List.take _ _).length = _
 rw [List.length_take, List.length_map, List.length_range, Nat.min_comm]
theorem getH_tx (K : Nat) (h : K ≤ 128) (i : Nat) (hi : i < lenH (prsH (txM K))) : getH (prsH (txM K)) i = lnH (words (mk8 (lineL i))) := by
 rw [lenH_tx K h] at hi
 rw [prsH_tx K h]
 unfold getH
 rw [List.getD_eq_getElem?_getD, List.getElem?_take_of_lt (by omega), List.getElem?_map, List.getElem?_range (by omega)]
 rfl
theorem fndN_host (g : Nat → Hst) (m : Nat) (hg : ∀ i, i < m → decide (rev (g i).a.f = hostT) = false ∧ hasF (g i).q.g hostT (g i).q.n = true ∧ is4 (g i).a.f = true) : ∀ j, j ≤ m → fndN g hostT 1 j = ((List.range j).map fun i => (⟨hostT, 1, 0, (g i).a, ⟨#[]⟩, ⟨#[]⟩⟩ : Rec)) ∧ fndB g hostT j = decide (0 < j)
 | 0, _ => ⟨rfl, rfl⟩
 | j + 1, h => by
  obtain ⟨h1, h2, h3⟩ := hg j (by omega)
  obtain ⟨i1, i2⟩ := fndN_host g m hg j (by omega)
  refine ⟨?_, ?_⟩
  ·rw [fndN, fndO, if_neg (of_decide_eq_false h1), if_pos h2, if_pos (show kdB (g j) 1 = true by unfold kdB; rw [h3]; rfl), i1, List.range_succ, List.map_append]
   rfl
  ·rw [fndB, fndT, h2, Bool.or_true, Bool.or_true, decide_eq_true (by omega)]
theorem ma_fin (n : Int) (K : Nat) (hK : K < 128) (e : manyN n = (K : Int)) : lenH (prsH (txM K)) = min K 64 ∧ lenR (fndR ⟨lenH (prsH (txM K)), getH (prsH (txM K))⟩ hostT 1) = min K 32 ∧ fndB (getH (prsH (txM K))) hostT (lenH (prsH (txM K))) = decide (0 < K) ∧ (0 < K → (getR (fndR ⟨lenH (prsH (txM K)), getH (prsH (txM K))⟩ hostT 1) 0).a = maA 0) ∧ (1 < K → (getH (prsH (txM K)) 1).a = maA 1) := by
 have hl := lenH_tx K (by omega)
 have hg : ∀ i, i < lenH (prsH (txM K)) → decide (rev (getH (prsH (txM K)) i).a.f = hostT) = false ∧ hasF (getH (prsH (txM K)) i).q.g hostT (getH (prsH (txM K)) i).q.n = true ∧ is4 (getH (prsH (txM K)) i).a.f = true := fun i hi => by
  rw [getH_tx K (by omega) i hi]
  obtain ⟨-, q1, q2, q3, -⟩ := ma_l ⟨i, by omega⟩
  exact ⟨q1, q2, q3⟩
 obtain ⟨f1, f2⟩ := fndN_host (getH (prsH (txM K))) _ hg _ (Nat.le_refl _)
 have hr : fndR ⟨lenH (prsH (txM K)), getH (prsH (txM K))⟩ hostT 1 = ((List.range (lenH (prsH (txM K)))).map fun i => (⟨hostT, 1, 0, (getH (prsH (txM K)) i).a, ⟨#[]⟩, ⟨#[]⟩⟩ : Rec)).take 32 := by
  unfold fndR
  rw [← f1]
 refine ⟨hl, ?_, ?_, fun h0 => ?_, fun h1 => ?_⟩
 ·rw [hr]
  show (List.take _ _).length = _
  rw [List.length_take, List.length_map, List.length_range, hl]
  omega
 ·rw [f2, hl]
  exact decide_eq_decide.2 (by omega)
 ·rw [hr]
  unfold getR
  rw [List.getD_eq_getElem?_getD, List.getElem?_take_of_lt (by decide), List.getElem?_map, List.getElem?_range (by omega)]
  show (getH (prsH (txM K)) 0).a = _
  rw [getH_tx K (by omega) 0 (by omega)]
  exact ma_0
 ·rw [getH_tx K (by omega) 1 (by omega)]
  exact ma_1
theorem mk8_app (a b : List UInt8) : mk8 a ++ mk8 b = mk8 (a ++ b) := data_inj (by rw [app_dt]; rfl)
theorem mok_1 (v : Int) : mokK TypeDesc.bool (mput [] (MK.b true) (Value.int IntKind.i64 v)) := fun p hp => by
 obtain rfl := List.mem_singleton.1 (show p ∈ [(MK.b true, Value.int IntKind.i64 v)] from hp)
 rfl
theorem mok_2 (v w : Int) : mokI TypeDesc.bool IntKind.i64 (mput (mput [] (MK.b true) (Value.int IntKind.i64 v)) (MK.b false) (Value.int IntKind.i64 w)) := fun p hp => by
 have hp : p ∈ [(MK.b true, Value.int IntKind.i64 v), (MK.b false, Value.int IntKind.i64 w)] := hp
 rcases List.mem_cons.1 hp with rfl | hp
 ·exact ⟨rfl, v, rfl⟩
 ·obtain rfl := List.mem_singleton.1 hp
  exact ⟨rfl, w, rfl⟩
theorem ma_v (n : Int) : maV n := by
 obtain ⟨K, hK, e⟩ := and127 n
 have e : manyN n = (K : Int) := e
 rw [maV]
 refine ⟨fun h => absurd h (by decide), fun _ => ⟨⟨⟨0⟩, Nat.zero_le _, rfl, rfl, rfl, rfl, rfl, trivial⟩, ?_⟩⟩
 rintro ⟨i⟩ hi
 have hi : i ≤ (manyN n).toNat := hi
 rw [e, Int.toNat_natCast] at hi
 refine ⟨fun h => ?_, fun h => ?_⟩
 ·have h : (i : Int) < manyN n := of_decide_eq_true h
  rw [e] at h
  have hi2 : i < 128 := by omega
  obtain ⟨q1, q2, q3⟩ := ma_q ⟨i, hi2⟩
  have k1 := ma_k ⟨i, hi2⟩
  have k3 := ma_t ⟨i, hi2⟩
  have tl := txL_len i (by omega)
  have hT : (txtOf (3 - mgI (maV_b ⟨i⟩) (MK.b (decide ((i : Int) < 10)))).toNat fun j => { toBitVec := BitVec.ofNat 8 (maV_e ⟨i⟩ j).toNat : UInt8 }) = mk8 (dgL i) := by
   have k1 : mgI (maV_b ⟨i⟩) (MK.b (decide ((i : Int) < 10))) = ((if i < 10 then 2 else if i < 100 then 1 else 0 : Nat) : Int) := k1
   have k3 : ((List.range (3 - (if i < 10 then 2 else if i < 100 then 1 else 0))).map fun j => UInt8.ofNat (maV_e ⟨i⟩ j).toNat) = dgL i := k3
   rw [k1, show ((3 : Int) - ((if i < 10 then 2 else if i < 100 then 1 else 0 : Nat) : Int)).toNat = 3 - (if i < 10 then 2 else if i < 100 then 1 else 0) by omega, ← k3]
   rfl
  have k1 : mgI (maV_b ⟨i⟩) (MK.b (decide ((i : Int) < 10))) = ((if i < 10 then 2 else if i < 100 then 1 else 0 : Nat) : Int) := k1
  have k2 : (0 : Int) ≤ mgI (maV_b ⟨i⟩) (MK.b (decide ((i : Int) < 10))) ∧ mgI (maV_b ⟨i⟩) (MK.b (decide ((i : Int) < 10))) ≤ 3 := by
   rw [k1]
   split
   ·decide
   ·split <;> decide
  have hd : (mk8 (dgL i)).size ≤ 3 := by
   show (dgL i).length ≤ 3
   unfold dgL
   split
   ·simp
   ·split <;> simp
  have hF : maV_f ⟨i⟩ = mk8 ([49, 48, 46, 48, 46, 48, 46] ++ dgL i) := by
   rw [maV_f]
   show (⟨#[49, 48, 46, 48, 46, 48, 46]⟩ : ByteArray) ++ (txtOf (3 - mgI (maV_b ⟨i⟩) (MK.b (decide ((i : Int) < 10)))).toNat fun j => { toBitVec := BitVec.ofNat 8 (maV_e ⟨i⟩ j).toNat : UInt8 }) = _
   rw [hT]
   exact mk8_app _ _
  have hS : txM i ++ (maV_f ⟨i⟩ ++ ⟨#[32, 104, 111, 115, 116, 10]⟩) = txM (i + 1) := by
   rw [hF, show (⟨#[32, 104, 111, 115, 116, 10]⟩ : ByteArray) = mk8 [32, 104, 111, 115, 116, 10] from rfl, mk8_app, txM, mk8_app, txM, txL, lineL]
   congr 2
   simp only [List.append_assoc]
   rfl
  have z1 : (maV_f ⟨i⟩).size ≤ 10 := by
   rw [hF]
   show ([49, 48, 46, 48, 46, 48, 46] ++ dgL i).length ≤ 10
   rw [List.length_append]
   have : (dgL i).length ≤ 3 := hd
   show 7 + _ ≤ 10
   omega
  have z2 : (txM i).size ≤ i * 16 := tl
  refine ⟨by decide, q1, by decide, by decide, q2, by decide, q3, fun p hp => (by cases hp), fun p hp => (by cases hp), mok_1 1, rfl, mok_2 1 0, mok_1 2, rfl, mok_2 2 _, k2.1, k2.2, Int.le_refl _, fun j hj => ?_, ?_, by omega, ?_, by unfold in64; dsimp only; omega, ⟨i + 1⟩, ?_, ?_, rfl, rfl, hS, rfl, rfl, trivial⟩
  ·have hj : j < 3 := by
    have hj : j < ((3 : Int) - mgI (maV_b ⟨i⟩) (MK.b (decide ((i : Int) < 10)))).toNat := hj
    omega
   have := ma_e ⟨i, hi2⟩ ⟨j, hj⟩
   have : 0 ≤ maV_e ⟨i⟩ j ∧ maV_e ⟨i⟩ j ≤ 255 := this
   refine congrArg (fun x => [X8 x]) ?_
   show _ = (((maV_e ⟨i⟩ j).toNat % 256 : Nat) : Int)
   omega
  ·show 7 + (txtOf (3 - mgI (maV_b ⟨i⟩) (MK.b (decide ((i : Int) < 10)))).toNat fun j => { toBitVec := BitVec.ofNat 8 (maV_e ⟨i⟩ j).toNat : UInt8 }).size ≤ _
   rw [hT]
   omega
  ·rw [ByteArray.size_append]
   show (txM i).size + ((maV_f ⟨i⟩).size + 6) ≤ _
   omega
  ·show i + 1 ≤ (manyN n).toNat
   rw [e, Int.toNat_natCast]
   omega
  ·show (manyN n).toNat - (i + 1) < (manyN n).toNat - i
   rw [e, Int.toNat_natCast]
   omega
 ·have h : ¬ (i : Int) < manyN n := of_decide_eq_false h
  rw [e] at h
  obtain rfl : i = K := by omega
  obtain ⟨f1, f2, f3, f4, f5⟩ := ma_fin n i hK e
  have tl : (txM i).size ≤ i * 16 := txL_len i (by omega)
  have hf := prsH_fn (txM i) (by omega)
  have b1 : (((lenH (prsH (txM i)) : Nat) : Int) == imin (manyN n) 64) = true := by rw [f1, e, beq_iff_eq]; unfold imin; split <;> omega
  have b2 : (maV_g n ⟨i⟩ == imin (imin (manyN n) 32) 64) = true := by
   rw [maV_g]
   show (((lenR (fndR ⟨lenH (prsH (txM i)), getH (prsH (txM i))⟩ hostT 1) : Nat) : Int) == imin (imin (manyN n) 32) 64) = true
   rw [f2, e, beq_iff_eq]
   unfold imin
   split <;> split <;> omega
  have b3 : (fndB (getH (prsH (txM i))) ⟨#[104, 111, 115, 116]⟩ (lenH (prsH (txM i))) == decide (manyN n > 0)) = true := by
   show (fndB (getH (prsH (txM i))) hostT (lenH (prsH (txM i))) == decide (manyN n > 0)) = true
   rw [f3, e, beq_iff_eq]
   exact decide_eq_decide.2 (by omega)
  have hz : (manyN n == 0) = decide (i = 0) := by
   rw [e, Bool.eq_iff_iff, beq_iff_eq, decide_eq_true_iff]
   omega
  have b4 : maV_a n ⟨i⟩ = true := by
   rw [maV_a, hz]
   by_cases h0 : i = 0
   ·rw [decide_eq_true h0]; rfl
   ·rw [decide_eq_false h0]
    show eqA (getR (fndR ⟨lenH (prsH (txM i)), getH (prsH (txM i))⟩ hostT 1) 0).a (maA 0) = true
    exact (eqA_iff _ _).2 (f4 (by omega))
  have hg : 0 < i → (0 : Int) < maV_g n ⟨i⟩ := fun h0 => by
   rw [maV_g]
   show (0 : Int) < ((lenR (fndR ⟨lenH (prsH (txM i)), getH (prsH (txM i))⟩ hostT 1) : Nat) : Int)
   rw [f2]
   omega
  dsimp only
  refine ⟨by omega, fun _ _ => rfl, by omega, hf, fun _ => by decide, fun h => ?_, fun _ => by decide, fun h => ?_, fun h => h, fun h => h, fun h => h, fun h1 h2 => ?_, fun h => h, ?_⟩
  ·rw [hz, Bool.and_eq_true, Bool.not_eq_true', decide_eq_false_iff_not] at h
   exact hg (by omega)
  ·rw [maV_c, Bool.and_eq_true, Bool.not_eq_true', decide_eq_false_iff_not, e] at h
   omega
  ·show (maV_d n ⟨i⟩ && !decide (manyN n < 2)) = true
   rw [h1, h2]
   rfl
  ·rw [b1, b2, b3, b4]
   show (decide (manyN n < 2) || eqA (getH (prsH (txM i)) 1).a (maA 1)) = true
   by_cases h2 : manyN n < 2
   ·rw [decide_eq_true h2]; rfl
   ·rw [decide_eq_false h2, (eqA_iff _ _).2 (f5 (by omega))]; rfl
theorem hmany_ok : CTok Tryz.prog 4 (C1 dInt (fun _ => []) fun _ => XB true) := C1_ok cx5_ok Tryz.func4 rfl (by decide) dInt_eq.ok (by kernel_rfl) (fun _ => rfl) fun n _ => exv (maV_eq n) (ma_v n)
end Go.Proofs.YtkjcoehblekpdaaGreatDoorAv
namespace Go.Proofs.YtkjcoehblekpdaaGreatDoorAv
open Go Go.RowKit
theorem hostsWords_J (L : GH) (s : ByteArray) (hs : s.size ≤ 140737488351232) : JF Tryz.prog 7 [strAV s] L (fun v L' => v = boolAV true ∧ L' = L) := by
 refine law_J hwords_ok (xs := [XT s]) (cs := _) rfl ?_ ?_ L
 ·intro p hp
  simp only [List.nil_append, List.not_mem_nil] at hp
 ·simp only [RVL]
  exact ⟨by simp [RV, strAV], trivial⟩
theorem hostsReverses_J (L : GH) (s : ByteArray) (hs : s.size ≤ 140737488351232) : JF Tryz.prog 5 [strAV s] L (fun v L' => v = boolAV true ∧ L' = L) := by
 refine law_J hrevs_ok (xs := [XT s]) (cs := _) rfl ?_ ?_ L
 ·intro p hp
  simp only [List.nil_append, List.not_mem_nil] at hp
 ·simp only [RVL]
  exact ⟨by simp [RV, strAV], trivial⟩
theorem hostsMany_J (L : GH) (s : Int) (hs : (Lit.int .i64 s).wf = true) : JF Tryz.prog 4 [intAV s] L (fun v L' => v = boolAV true ∧ L' = L) := by
 refine law_J hmany_ok (xs := [XI s]) (cs := _) rfl ?_ ?_ L
 ·intro p hp
  simp only [List.nil_append, List.not_mem_nil] at hp
 ·simp only [RVL]
  exact ⟨by simp [RV, intAV], trivial⟩
end Go.Proofs.YtkjcoehblekpdaaGreatDoorAv
