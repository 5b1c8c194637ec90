/- Own texts, put together. -/
import Derived.Test.YtkjcoehblekpdaaGreatDoorMiD
import Derived.WalkKit
import Derived.Deep.LoopGhost
import Derived.Laws.OwnMore
import Derived.Laws.CopyRow
import Derived.Lib.ConvBytes
import Derived.Below
import Derived.KernelRfl
import Derived.Scope
import Derived.Laws.BytesString
import Derived.DataElems
import Derived.Laws.Tables
import Derived.Laws.Cells
import Derived.Laws.StructEq
import Derived.Laws.RangeString
import Derived.BigQuiet
import Derived.Test.YtkjcoehblekpdaaGreatDoorProg
import Derived.Shelf.Strings.Builder1
import Derived.Shelf.Strings.Builder2
import Derived.Shelf.Strings.OnBuilder
import Derived.Shelf.Small.Wraps
import Derived.Shelf.Strings.BuilderF
import Derived.Shelf.Strings.BuilderK
import Derived.Shelf.Utf8.RuneCount
import Derived.Shelf.Strings.Builder2Cap
import Derived.Shelf.Strconv.Itoa0
import Derived.Shelf.Strconv.Itoa1
import Derived.Shelf.LaysM
import Derived.Shelf.Strconv.Itoa2
import Derived.Shelf.Strconv.Itoa3
import Derived.Shelf.Strconv.Itoa4
import Derived.Shelf.Strconv.Clone
import Derived.Shelf.Strconv.SyntaxError
import Derived.Shelf.LaysC
import Derived.Shelf.Strconv.ToError
import Derived.Shelf.Strconv.Lower
import Derived.Shelf.Strconv.ParseUint10
import Derived.Shelf.Strconv.ParseUint10Empty
import Derived.Shelf.Strconv.ParseUint10Any
import Derived.Shelf.Strconv.RangeError
import Derived.Shelf.Strconv.ToErrorRange
import Derived.Shelf.Strconv.ParseUintEmpty
import Derived.Shelf.Strconv.ParseUint10b64
import Derived.Shelf.Strconv.ParseUint10b32
import Derived.Shelf.Strconv.ParseUint10b16
import Derived.Shelf.Strconv.ParseUint10b8
import Derived.Shelf.Strconv.ParseUint10At
import Derived.Shelf.Strings.Search1
import Derived.Shelf.Strings.Search2
import Derived.Shelf.Strings.Search3
import Derived.Shelf.Strings.Cut
import Derived.Shelf.Strings.Count
import Derived.Shelf.Strings.Shaped
import Derived.Shelf.Strings.LastIndex
import Derived.Shelf.Strings.Prefix
import Derived.Shelf.Strings.Split
import Derived.Shelf.Strings.Replace
import Derived.Shelf.Strings.Fold
import Derived.Shelf.Strings.SplitShaped
import Derived.Shelf.Unicode.Decode
import Derived.Shelf.Strings.RuneCount
import Derived.Shelf.Unicode.DecodeSlow
import Derived.Shelf.Unicode.DecodeAny
import Derived.Shelf.Unicode.ValidAny
import Derived.Shelf.Unicode.CaseLookup
import Derived.Shelf.Unicode.CaseConvert
import Derived.Shelf.Strings.BuilderCap
import Derived.OpenShut
import Derived.SliceStrings
import Derived.ChangeSlices
import Derived.SizedLaws
import Derived.Carry
import Derived.Lib.LaidTab
import Derived.Shelf.Vars
import Derived.WideKeyArr2
import Derived.Lay
import Derived.Deep.DeepHandedRow
import Derived.Test.YtkjcoehblekpdaaGreatDoorRows
import Derived.Lib.LaidU8T
import Derived.Lib.Replace
import Derived.Lib.AppendIntMem
import Derived.Laws.BitsLemmas
import Derived.Lib.ValidLaws
set_option linter.unusedVariables false
set_option linter.unusedSimpArgs false
set_option maxRecDepth 100000
namespace Go.Proofs.YtkjcoehblekpdaaGreatDoorAv
open Go Go.RowKit
def side (s : ByteArray) : List ByteArray := if s = ⟨#[]⟩ then [] else splitS s ⟨#[58]⟩
structure LR where
 l : List ByteArray
 r : List ByteArray
def sixP (p : LR) (i : Nat) : Nat := if i < p.l.length then i else i + (8 - p.l.length - p.r.length)
def sixQ (p : LR) (i : Nat) : ByteArray := if i < p.l.length then pcs p.l i else pcs p.r (i - p.l.length)
def sixA (p : LR) : Nat → Nat → Int
 | 0 => fun _ => 0
 | i + 1 => fun k => if k = 2 * sixP p i + 1 then IntKind.u8.wrap ((pu16 (sixQ p i)).2 : Int) else if k = 2 * sixP p i then IntKind.u8.wrap (((pu16 (sixQ p i)).2 : Int).fdiv (2 ^ 8)) else sixA p i k
def sixOk (p : LR) : Nat → Bool
 | 0 => true
 | i + 1 => sixOk p i && decide ((pu16 (sixQ p i)).1 = 0)
def sixL (s : ByteArray) : LR := ⟨side (cutB s ⟨#[58, 58]⟩).1, side (cutB s ⟨#[58, 58]⟩).2.1⟩
def six (s : ByteArray) : (Nat → Int) × Bool :=
 if ((sixL s).l.length + (sixL s).r.length ≤ 8 ∧ ((cutB s ⟨#[58, 58]⟩).2.2 = true ∨ (sixL s).l.length = 8)) ∧ sixOk (sixL s) ((sixL s).l.length + (sixL s).r.length) = true then (sixA (sixL s) ((sixL s).l.length + (sixL s).r.length), true) else (zeroA, false)
structure UX where
 u : Unit
def sixT (s : ByteArray) : Nat := (sixL s).l.length + (sixL s).r.length
def sixZ : XRow := .one 27 true [X8 0, X8 0, X8 0, X8 0, X8 0, X8 0, X8 0, X8 0, X8 0, X8 0, X8 0, X8 0, X8 0, X8 0, X8 0, X8 0]
def sixS (s : ByteArray) : List (Nat × XV) := [(2, .ptr 0 0 0 0), (3, XB false), (7, strsL (sixL s).l), (8, strsL (sixL s).r)]
def sixU (s : ByteArray) : List (Nat × XV) := [(9, .ptr 1 0 0 0), (51, .fz ((sixL s).l.length + (sixL s).r.length) 1 fun j => [XT (sixQ (sixL s) j)]), (52, XI ((sixT s : Nat) : Int))]
def siA (s : ByteArray) : Inv where
 σ := UX
 S := fun x => ⟨sixS s, [(0, sixZ)], 1, false, []⟩
 inv := fun x => sixT s ≤ 8 ∧ ((cutB s ⟨#[58, 58]⟩).2.2 = true ∨ (sixL s).l.length = 8)
 μ := fun x => 0
def siI (s : ByteArray) : Inv where
 σ := IXAd
 S := fun x => ⟨(53, XI x.i) :: sixS s ++ sixU s, [(0, sixZ), (1, .one 27 true (adr (sixA (sixL s) x.i)).cells)], 2, false, []⟩
 inv := fun x => x.i ≤ sixT s ∧ sixOk (sixL s) x.i = true
 μ := fun x => sixT s - x.i
def siE (s : ByteArray) : Env := { loops := [(0, siI s)], cuts := [(9, siA s)], frz := [(5, [7]), (7, [8])], dec := [15] }
def siV_c (s : ByteArray) (x : IXAd) :=
 ((↑(pu16 (sixQ (sixL s) (↑x.i : Int).toNat)).snd : Int).fdiv ((2 : Int) ^ (8 : Nat)))
def siV_b (s : ByteArray) (x : IXAd) (x' : (siI s).σ) :=
 (((27 : TypeId) = (27 : TypeId) ∧ true = true) ∧ (bif ((2 : Int) * (↑x.i : Int)).toNat.beq 0 then IntKind.u8.wrap (siV_c s x) else sixA (sixL s) x.i 0) = sixA (sixL s) x'.i 0 ∧ (bif ((2 : Int) * (↑x.i : Int) + (1 : Int)).toNat.beq ((1 : Nat)) then IntKind.u8.wrap (↑(pu16 (sixQ (sixL s) (↑x.i : Int).toNat)).snd : Int) else bif ((2 : Int) * (↑x.i : Int)).toNat.beq ((1 : Nat)) then IntKind.u8.wrap (siV_c s x) else sixA (sixL s) x.i 1) = sixA (sixL s) x'.i 1 ∧ (bif ((2 : Int) * (↑x.i : Int) + (1 : Int)).toNat.beq ((2 : Nat)) then IntKind.u8.wrap (↑(pu16 (sixQ (sixL s) (↑x.i : Int).toNat)).snd : Int) else bif ((2 : Int) * (↑x.i : Int)).toNat.beq ((2 : Nat)) then IntKind.u8.wrap (siV_c s x) else sixA (sixL s) x.i 2) = sixA (sixL s) x'.i 2 ∧ (bif ((2 : Int) * (↑x.i : Int) + (1 : Int)).toNat.beq ((3 : Nat)) then IntKind.u8.wrap (↑(pu16 (sixQ (sixL s) (↑x.i : Int).toNat)).snd : Int) else bif ((2 : Int) * (↑x.i : Int)).toNat.beq ((3 : Nat)) then IntKind.u8.wrap (siV_c s x) else sixA (sixL s) x.i 3) = sixA (sixL s) x'.i 3 ∧ (bif ((2 : Int) * (↑x.i : Int) + (1 : Int)).toNat.beq ((4 : Nat)) then IntKind.u8.wrap (↑(pu16 (sixQ (sixL s) (↑x.i : Int).toNat)).snd : Int) else bif ((2 : Int) * (↑x.i : Int)).toNat.beq ((4 : Nat)) then IntKind.u8.wrap (siV_c s x) else sixA (sixL s) x.i 4) = sixA (sixL s) x'.i 4 ∧ (bif ((2 : Int) * (↑x.i : Int) + (1 : Int)).toNat.beq ((5 : Nat)) then IntKind.u8.wrap (↑(pu16 (sixQ (sixL s) (↑x.i : Int).toNat)).snd : Int) else bif ((2 : Int) * (↑x.i : Int)).toNat.beq ((5 : Nat)) then IntKind.u8.wrap (siV_c s x) else sixA (sixL s) x.i 5) = sixA (sixL s) x'.i 5 ∧ (bif ((2 : Int) * (↑x.i : Int) + (1 : Int)).toNat.beq ((6 : Nat)) then IntKind.u8.wrap (↑(pu16 (sixQ (sixL s) (↑x.i : Int).toNat)).snd : Int) else bif ((2 : Int) * (↑x.i : Int)).toNat.beq ((6 : Nat)) then IntKind.u8.wrap (siV_c s x) else sixA (sixL s) x.i 6) = sixA (sixL s) x'.i 6 ∧ (bif ((2 : Int) * (↑x.i : Int) + (1 : Int)).toNat.beq ((7 : Nat)) then IntKind.u8.wrap (↑(pu16 (sixQ (sixL s) (↑x.i : Int).toNat)).snd : Int) else bif ((2 : Int) * (↑x.i : Int)).toNat.beq ((7 : Nat)) then IntKind.u8.wrap (siV_c s x) else sixA (sixL s) x.i 7) = sixA (sixL s) x'.i 7 ∧ (bif ((2 : Int) * (↑x.i : Int) + (1 : Int)).toNat.beq ((8 : Nat)) then IntKind.u8.wrap (↑(pu16 (sixQ (sixL s) (↑x.i : Int).toNat)).snd : Int) else bif ((2 : Int) * (↑x.i : Int)).toNat.beq ((8 : Nat)) then IntKind.u8.wrap (siV_c s x) else sixA (sixL s) x.i 8) = sixA (sixL s) x'.i 8 ∧ (bif ((2 : Int) * (↑x.i : Int) + (1 : Int)).toNat.beq ((9 : Nat)) then IntKind.u8.wrap (↑(pu16 (sixQ (sixL s) (↑x.i : Int).toNat)).snd : Int) else bif ((2 : Int) * (↑x.i : Int)).toNat.beq ((9 : Nat)) then IntKind.u8.wrap (siV_c s x) else sixA (sixL s) x.i 9) = sixA (sixL s) x'.i 9 ∧ (bif ((2 : Int) * (↑x.i : Int) + (1 : Int)).toNat.beq ((10 : Nat)) then IntKind.u8.wrap (↑(pu16 (sixQ (sixL s) (↑x.i : Int).toNat)).snd : Int) else bif ((2 : Int) * (↑x.i : Int)).toNat.beq ((10 : Nat)) then IntKind.u8.wrap (siV_c s x) else sixA (sixL s) x.i 10) = sixA (sixL s) x'.i 10 ∧ (bif ((2 : Int) * (↑x.i : Int) + (1 : Int)).toNat.beq ((11 : Nat)) then IntKind.u8.wrap (↑(pu16 (sixQ (sixL s) (↑x.i : Int).toNat)).snd : Int) else bif ((2 : Int) * (↑x.i : Int)).toNat.beq ((11 : Nat)) then IntKind.u8.wrap (siV_c s x) else sixA (sixL s) x.i 11) = sixA (sixL s) x'.i 11 ∧ (bif ((2 : Int) * (↑x.i : Int) + (1 : Int)).toNat.beq ((12 : Nat)) then IntKind.u8.wrap (↑(pu16 (sixQ (sixL s) (↑x.i : Int).toNat)).snd : Int) else bif ((2 : Int) * (↑x.i : Int)).toNat.beq ((12 : Nat)) then IntKind.u8.wrap (siV_c s x) else sixA (sixL s) x.i 12) = sixA (sixL s) x'.i 12 ∧ (bif ((2 : Int) * (↑x.i : Int) + (1 : Int)).toNat.beq ((13 : Nat)) then IntKind.u8.wrap (↑(pu16 (sixQ (sixL s) (↑x.i : Int).toNat)).snd : Int) else bif ((2 : Int) * (↑x.i : Int)).toNat.beq ((13 : Nat)) then IntKind.u8.wrap (siV_c s x) else sixA (sixL s) x.i 13) = sixA (sixL s) x'.i 13 ∧ (bif ((2 : Int) * (↑x.i : Int) + (1 : Int)).toNat.beq ((14 : Nat)) then IntKind.u8.wrap (↑(pu16 (sixQ (sixL s) (↑x.i : Int).toNat)).snd : Int) else bif ((2 : Int) * (↑x.i : Int)).toNat.beq ((14 : Nat)) then IntKind.u8.wrap (siV_c s x) else sixA (sixL s) x.i 14) = sixA (sixL s) x'.i 14 ∧ (bif ((2 : Int) * (↑x.i : Int) + (1 : Int)).toNat.beq ((15 : Nat)) then IntKind.u8.wrap (↑(pu16 (sixQ (sixL s) (↑x.i : Int).toNat)).snd : Int) else bif ((2 : Int) * (↑x.i : Int)).toNat.beq ((15 : Nat)) then IntKind.u8.wrap (siV_c s x) else sixA (sixL s) x.i 15) = sixA (sixL s) x'.i 15 ∧ True)
def siV_d (s : ByteArray) (x : IXAd) :=
 ((↑x.i : Int) + ((8 : Int) - (↑(sixL s).l.length : Int) - (↑(sixL s).r.length : Int)))
def siV_a (s : ByteArray) (x : IXAd) (x' : (siI s).σ) :=
 (((27 : TypeId) = (27 : TypeId) ∧ true = true) ∧ (bif ((2 : Int) * (siV_d s x) + (1 : Int)).toNat.beq 0 then IntKind.u8.wrap (↑(pu16 (sixQ (sixL s) (↑x.i : Int).toNat)).snd : Int) else bif ((2 : Int) * (siV_d s x)).toNat.beq 0 then IntKind.u8.wrap (siV_c s x) else sixA (sixL s) x.i 0) = sixA (sixL s) x'.i 0 ∧ (bif ((2 : Int) * (siV_d s x) + (1 : Int)).toNat.beq ((1 : Nat)) then IntKind.u8.wrap (↑(pu16 (sixQ (sixL s) (↑x.i : Int).toNat)).snd : Int) else bif ((2 : Int) * (siV_d s x)).toNat.beq ((1 : Nat)) then IntKind.u8.wrap (siV_c s x) else sixA (sixL s) x.i 1) = sixA (sixL s) x'.i 1 ∧ (bif ((2 : Int) * (siV_d s x) + (1 : Int)).toNat.beq ((2 : Nat)) then IntKind.u8.wrap (↑(pu16 (sixQ (sixL s) (↑x.i : Int).toNat)).snd : Int) else bif ((2 : Int) * (siV_d s x)).toNat.beq ((2 : Nat)) then IntKind.u8.wrap (siV_c s x) else sixA (sixL s) x.i 2) = sixA (sixL s) x'.i 2 ∧ (bif ((2 : Int) * (siV_d s x) + (1 : Int)).toNat.beq ((3 : Nat)) then IntKind.u8.wrap (↑(pu16 (sixQ (sixL s) (↑x.i : Int).toNat)).snd : Int) else bif ((2 : Int) * (siV_d s x)).toNat.beq ((3 : Nat)) then IntKind.u8.wrap (siV_c s x) else sixA (sixL s) x.i 3) = sixA (sixL s) x'.i 3 ∧ (bif ((2 : Int) * (siV_d s x) + (1 : Int)).toNat.beq ((4 : Nat)) then IntKind.u8.wrap (↑(pu16 (sixQ (sixL s) (↑x.i : Int).toNat)).snd : Int) else bif ((2 : Int) * (siV_d s x)).toNat.beq ((4 : Nat)) then IntKind.u8.wrap (siV_c s x) else sixA (sixL s) x.i 4) = sixA (sixL s) x'.i 4 ∧ (bif ((2 : Int) * (siV_d s x) + (1 : Int)).toNat.beq ((5 : Nat)) then IntKind.u8.wrap (↑(pu16 (sixQ (sixL s) (↑x.i : Int).toNat)).snd : Int) else bif ((2 : Int) * (siV_d s x)).toNat.beq ((5 : Nat)) then IntKind.u8.wrap (siV_c s x) else sixA (sixL s) x.i 5) = sixA (sixL s) x'.i 5 ∧ (bif ((2 : Int) * (siV_d s x) + (1 : Int)).toNat.beq ((6 : Nat)) then IntKind.u8.wrap (↑(pu16 (sixQ (sixL s) (↑x.i : Int).toNat)).snd : Int) else bif ((2 : Int) * (siV_d s x)).toNat.beq ((6 : Nat)) then IntKind.u8.wrap (siV_c s x) else sixA (sixL s) x.i 6) = sixA (sixL s) x'.i 6 ∧ (bif ((2 : Int) * (siV_d s x) + (1 : Int)).toNat.beq ((7 : Nat)) then IntKind.u8.wrap (↑(pu16 (sixQ (sixL s) (↑x.i : Int).toNat)).snd : Int) else bif ((2 : Int) * (siV_d s x)).toNat.beq ((7 : Nat)) then IntKind.u8.wrap (siV_c s x) else sixA (sixL s) x.i 7) = sixA (sixL s) x'.i 7 ∧ (bif ((2 : Int) * (siV_d s x) + (1 : Int)).toNat.beq ((8 : Nat)) then IntKind.u8.wrap (↑(pu16 (sixQ (sixL s) (↑x.i : Int).toNat)).snd : Int) else bif ((2 : Int) * (siV_d s x)).toNat.beq ((8 : Nat)) then IntKind.u8.wrap (siV_c s x) else sixA (sixL s) x.i 8) = sixA (sixL s) x'.i 8 ∧ (bif ((2 : Int) * (siV_d s x) + (1 : Int)).toNat.beq ((9 : Nat)) then IntKind.u8.wrap (↑(pu16 (sixQ (sixL s) (↑x.i : Int).toNat)).snd : Int) else bif ((2 : Int) * (siV_d s x)).toNat.beq ((9 : Nat)) then IntKind.u8.wrap (siV_c s x) else sixA (sixL s) x.i 9) = sixA (sixL s) x'.i 9 ∧ (bif ((2 : Int) * (siV_d s x) + (1 : Int)).toNat.beq ((10 : Nat)) then IntKind.u8.wrap (↑(pu16 (sixQ (sixL s) (↑x.i : Int).toNat)).snd : Int) else bif ((2 : Int) * (siV_d s x)).toNat.beq ((10 : Nat)) then IntKind.u8.wrap (siV_c s x) else sixA (sixL s) x.i 10) = sixA (sixL s) x'.i 10 ∧ (bif ((2 : Int) * (siV_d s x) + (1 : Int)).toNat.beq ((11 : Nat)) then IntKind.u8.wrap (↑(pu16 (sixQ (sixL s) (↑x.i : Int).toNat)).snd : Int) else bif ((2 : Int) * (siV_d s x)).toNat.beq ((11 : Nat)) then IntKind.u8.wrap (siV_c s x) else sixA (sixL s) x.i 11) = sixA (sixL s) x'.i 11 ∧ (bif ((2 : Int) * (siV_d s x) + (1 : Int)).toNat.beq ((12 : Nat)) then IntKind.u8.wrap (↑(pu16 (sixQ (sixL s) (↑x.i : Int).toNat)).snd : Int) else bif ((2 : Int) * (siV_d s x)).toNat.beq ((12 : Nat)) then IntKind.u8.wrap (siV_c s x) else sixA (sixL s) x.i 12) = sixA (sixL s) x'.i 12 ∧ (bif ((2 : Int) * (siV_d s x) + (1 : Int)).toNat.beq ((13 : Nat)) then IntKind.u8.wrap (↑(pu16 (sixQ (sixL s) (↑x.i : Int).toNat)).snd : Int) else bif ((2 : Int) * (siV_d s x)).toNat.beq ((13 : Nat)) then IntKind.u8.wrap (siV_c s x) else sixA (sixL s) x.i 13) = sixA (sixL s) x'.i 13 ∧ (bif ((2 : Int) * (siV_d s x) + (1 : Int)).toNat.beq ((14 : Nat)) then IntKind.u8.wrap (↑(pu16 (sixQ (sixL s) (↑x.i : Int).toNat)).snd : Int) else bif ((2 : Int) * (siV_d s x)).toNat.beq ((14 : Nat)) then IntKind.u8.wrap (siV_c s x) else sixA (sixL s) x.i 14) = sixA (sixL s) x'.i 14 ∧ (bif ((2 : Int) * (siV_d s x) + (1 : Int)).toNat.beq ((15 : Nat)) then IntKind.u8.wrap (↑(pu16 (sixQ (sixL s) (↑x.i : Int).toNat)).snd : Int) else bif ((2 : Int) * (siV_d s x)).toNat.beq ((15 : Nat)) then IntKind.u8.wrap (siV_c s x) else sixA (sixL s) x.i 15) = sixA (sixL s) x'.i 15 ∧ True)
def siV_e (s : ByteArray) :=
 ((0 : Int) = (six s).fst 0 ∧ (0 : Int) = (six s).fst 1 ∧ (0 : Int) = (six s).fst 2 ∧ (0 : Int) = (six s).fst 3 ∧ (0 : Int) = (six s).fst 4 ∧ (0 : Int) = (six s).fst 5 ∧ (0 : Int) = (six s).fst 6 ∧ (0 : Int) = (six s).fst 7 ∧ (0 : Int) = (six s).fst 8 ∧ (0 : Int) = (six s).fst 9 ∧ (0 : Int) = (six s).fst 10 ∧ (0 : Int) = (six s).fst 11 ∧ (0 : Int) = (six s).fst 12 ∧ (0 : Int) = (six s).fst 13 ∧ (0 : Int) = (six s).fst 14 ∧ (0 : Int) = (six s).fst 15 ∧ True)
def siV_f :=
 (((27 : TypeId) = (27 : TypeId) ∧ true = true) ∧ (0 : Int) = (0 : Int) ∧ (0 : Int) = (0 : Int) ∧ (0 : Int) = (0 : Int) ∧ (0 : Int) = (0 : Int) ∧ (0 : Int) = (0 : Int) ∧ (0 : Int) = (0 : Int) ∧ (0 : Int) = (0 : Int) ∧ (0 : Int) = (0 : Int) ∧ (0 : Int) = (0 : Int) ∧ (0 : Int) = (0 : Int) ∧ (0 : Int) = (0 : Int) ∧ (0 : Int) = (0 : Int) ∧ (0 : Int) = (0 : Int) ∧ (0 : Int) = (0 : Int) ∧ (0 : Int) = (0 : Int) ∧ (0 : Int) = (0 : Int) ∧ True)
def siV_g (s : ByteArray) (x : IXAd) :=
 (decide ((↑x.i : Int) < (↑(sixT s) : Int)) = false → (sixA (sixL s) x.i 0 = (six s).fst 0 ∧ sixA (sixL s) x.i 1 = (six s).fst 1 ∧ sixA (sixL s) x.i 2 = (six s).fst 2 ∧ sixA (sixL s) x.i 3 = (six s).fst 3 ∧ sixA (sixL s) x.i 4 = (six s).fst 4 ∧ sixA (sixL s) x.i 5 = (six s).fst 5 ∧ sixA (sixL s) x.i 6 = (six s).fst 6 ∧ sixA (sixL s) x.i 7 = (six s).fst 7 ∧ sixA (sixL s) x.i 8 = (six s).fst 8 ∧ sixA (sixL s) x.i 9 = (six s).fst 9 ∧ sixA (sixL s) x.i 10 = (six s).fst 10 ∧ sixA (sixL s) x.i 11 = (six s).fst 11 ∧ sixA (sixL s) x.i 12 = (six s).fst 12 ∧ sixA (sixL s) x.i 13 = (six s).fst 13 ∧ sixA (sixL s) x.i 14 = (six s).fst 14 ∧ sixA (sixL s) x.i 15 = (six s).fst 15 ∧ True) ∧ true = (six s).snd ∧ True)
def siV_h (s : ByteArray) :=
 (cutB s ⟨#[58, 58]⟩)
def siV_i (s : ByteArray) :=
 ((XV.fz (sixL s).l.length 1 fun (i : Nat) => [XT ((sixL s).l.getD i ⟨#[]⟩)]) = XV.fz (sixL s).l.length 1 fun (i : Nat) => [XT ((sixL s).l.getD i ⟨#[]⟩)])
def siV_j (s : ByteArray) :=
 ((XV.fz (sixL s).r.length 1 fun (i : Nat) => [XT ((sixL s).r.getD i ⟨#[]⟩)]) = XV.fz (sixL s).r.length 1 fun (i : Nat) => [XT ((sixL s).r.getD i ⟨#[]⟩)])
def siV_k (s : ByteArray) (x : (siI s).σ) :=
 (((27 : Nat) = (27 : TypeId) ∧ true = true) ∧ (0 : Int) = sixA (sixL s) x.i 0 ∧ (0 : Int) = sixA (sixL s) x.i 1 ∧ (0 : Int) = sixA (sixL s) x.i 2 ∧ (0 : Int) = sixA (sixL s) x.i 3 ∧ (0 : Int) = sixA (sixL s) x.i 4 ∧ (0 : Int) = sixA (sixL s) x.i 5 ∧ (0 : Int) = sixA (sixL s) x.i 6 ∧ (0 : Int) = sixA (sixL s) x.i 7 ∧ (0 : Int) = sixA (sixL s) x.i 8 ∧ (0 : Int) = sixA (sixL s) x.i 9 ∧ (0 : Int) = sixA (sixL s) x.i 10 ∧ (0 : Int) = sixA (sixL s) x.i 11 ∧ (0 : Int) = sixA (sixL s) x.i 12 ∧ (0 : Int) = sixA (sixL s) x.i 13 ∧ (0 : Int) = sixA (sixL s) x.i 14 ∧ (0 : Int) = sixA (sixL s) x.i 15 ∧ True)
def siV_l :=
 (((27 : Nat) = (27 : TypeId) ∧ true = true) ∧ (0 : Int) = (0 : Int) ∧ (0 : Int) = (0 : Int) ∧ (0 : Int) = (0 : Int) ∧ (0 : Int) = (0 : Int) ∧ (0 : Int) = (0 : Int) ∧ (0 : Int) = (0 : Int) ∧ (0 : Int) = (0 : Int) ∧ (0 : Int) = (0 : Int) ∧ (0 : Int) = (0 : Int) ∧ (0 : Int) = (0 : Int) ∧ (0 : Int) = (0 : Int) ∧ (0 : Int) = (0 : Int) ∧ (0 : Int) = (0 : Int) ∧ (0 : Int) = (0 : Int) ∧ (0 : Int) = (0 : Int) ∧ (0 : Int) = (0 : Int) ∧ True)
def siV_m (s : ByteArray) :=
 ((XV.fz ((sixL s).l.length + (sixL s).r.length) 1 fun (j : Nat) => [XT (sixQ (sixL s) j)]) = XV.fz ((sixL s).l.length + (sixL s).r.length) 1 fun (j : Nat) => [XT (sixQ (sixL s) j)])
def siV_n (s : ByteArray) :=
 ((XV.fz ((sixL s).l.length + (sixL s).r.length) 1 fun (j : Nat) => [XT (bif j.blt (sixL s).l.length then (sixL s).l.getD j ⟨#[]⟩ else (sixL s).r.getD (j - (sixL s).l.length) ⟨#[]⟩)]) = XV.fz ((sixL s).l.length + (sixL s).r.length) 1 fun (j : Nat) => [XT (sixQ (sixL s) j)])
def siV_o (s : ByteArray) (x : IXAd) :=
 ((pu16 (sixQ (sixL s) (↑x.i : Int).toNat)).fst = (1 : Nat) → (sixQ (sixL s) (↑x.i : Int).toNat).size ≤ (1000000 : Nat) ∧ (116 : TypeId) = (116 : TypeId) ∧ ((1 : Int) = (1 : Int) ∨ (1 : Int) = (2 : Int)) ∧ (True → (siV_e s) ∧ false = (six s).snd ∧ True) ∧ True)
def siV_p (s : ByteArray) (x : IXAd) :=
 ((pu16 (sixQ (sixL s) (↑x.i : Int).toNat)).fst = (2 : Nat) → (sixQ (sixL s) (↑x.i : Int).toNat).size ≤ (1000000 : Nat) ∧ (116 : TypeId) = (116 : TypeId) ∧ ((2 : Int) = (1 : Int) ∨ (2 : Int) = (2 : Int)) ∧ (True → (siV_e s) ∧ false = (six s).snd ∧ True) ∧ True)
def siV_q (s : ByteArray) :=
 (splitS (siV_h s).fst ⟨#[58]⟩)
def siV_r (s : ByteArray) :=
 (splitS (siV_h s).snd.fst ⟨#[58]⟩)
def siV_s (s : ByteArray) :=
 ((siV_h s).snd.snd = true ∨ (sixL s).l.length = (8 : Nat))
def siV (s : ByteArray) : Prop :=
 s.size < (4294967281 : Nat) ∧ ((!decide ((siV_h s).fst = ⟨#[]⟩)) = true → (siV_h s).fst.size < (4294967281 : Nat) ∧ (1 : Nat) ≤ (1 : Nat) ∧ ((!decide ((siV_h s).snd.fst = ⟨#[]⟩)) = true → (siV_h s).snd.fst.size < (4294967281 : Nat) ∧ (1 : Nat) ≤ (1 : Nat) ∧ (in64 ((↑(siV_q s).length : Int) + (↑(siV_r s).length : Int)) ∧ ((decide ((↑(siV_q s).length : Int) + (↑(siV_r s).length : Int) > (8 : Int)) || !(siV_h s).snd.snd && (↑(siV_q s).length : Int) != (8 : Int)) = true → (siV_e s) ∧ false = (six s).snd ∧ True) ∧ ((decide ((↑(siV_q s).length : Int) + (↑(siV_r s).length : Int) > (8 : Int)) || !(siV_h s).snd.snd && (↑(siV_q s).length : Int) != (8 : Int)) = false → ∃ (x : (siA s).σ), (sixT s ≤ (8 : Nat) ∧ (siV_s s)) ∧ true = true ∧ XV.ptr 0 0 0 0 = XV.ptr 0 0 0 0 ∧ false = false ∧ ((XV.fz (siV_q s).length 1 fun (i : Nat) => [XT ((siV_q s).getD i ⟨#[]⟩)]) = XV.fz (sixL s).l.length 1 fun (i : Nat) => [XT ((sixL s).l.getD i ⟨#[]⟩)]) ∧ ((XV.fz (siV_r s).length 1 fun (i : Nat) => [XT ((siV_r s).getD i ⟨#[]⟩)]) = XV.fz (sixL s).r.length 1 fun (i : Nat) => [XT ((sixL s).r.getD i ⟨#[]⟩)]) ∧ siV_l ∧ True)) ∧ ∀ (x : UX), sixT s ≤ (8 : Nat) ∧ (siV_s s) → (↑(sixL s).l.length : Int) = (↑(sixL s).l.length : Int) ∧ (↑(sixL s).l.length : Int) = (↑(sixL s).l.length : Int) ∧ ((sixL s).l.length + (sixL s).r.length) * (16 : Nat) ≤ (140737488355328 : Nat) ∧ (sixL s).l.length + (sixL s).r.length ≤ (140737488355328 : Nat) ∧ (∃ (x : (siI s).σ), (x.i ≤ sixT s ∧ sixOk (sixL s) x.i = true) ∧ true = true ∧ (0 : Int) = (↑x.i : Int) ∧ XV.ptr 0 0 0 0 = XV.ptr 0 0 0 0 ∧ false = false ∧ (siV_i s) ∧ (siV_j s) ∧ XV.ptr 1 0 0 0 = XV.ptr 1 0 0 0 ∧ (siV_n s) ∧ (↑((sixL s).l.length + (sixL s).r.length) : Int) = (↑(sixT s) : Int) ∧ siV_f ∧ (siV_k s x) ∧ True) ∧ ∀ (x : IXAd), x.i ≤ sixT s ∧ sixOk (sixL s) x.i = true → (decide ((↑x.i : Int) < (↑(sixT s) : Int)) = true → (0 : Int) ≤ (↑x.i : Int) ∧ (↑x.i : Int) < (↑((sixL s).l.length + (sixL s).r.length) : Int) ∧ (sixQ (sixL s) (↑x.i : Int).toNat).size ≤ (1000000 : Nat) ∧ (16 : Int) = (16 : Int) ∧ ((pu16 (sixQ (sixL s) (↑x.i : Int).toNat)).fst = (0 : Nat) → (decide ((↑x.i : Int) ≥ (↑(sixL s).l.length : Int)) = true → in64 ((8 : Int) - (↑(sixL s).l.length : Int)) ∧ in64 ((8 : Int) - (↑(sixL s).l.length : Int) - (↑(sixL s).r.length : Int)) ∧ in64 (siV_d s x) ∧ in64 ((2 : Int) * (siV_d s x)) ∧ in64 ((2 : Int) * (siV_d s x)) ∧ in64 ((2 : Int) * (siV_d s x) + (1 : Int)) ∧ (0 : Int) ≤ (2 : Int) * (siV_d s x) ∧ (2 : Int) * (siV_d s x) < (↑(16 : Nat) : Int) ∧ ((2 : Int) * (siV_d s x)).toNat < [sixA (sixL s) x.i 0, sixA (sixL s) x.i 1, sixA (sixL s) x.i 2, sixA (sixL s) x.i 3, sixA (sixL s) x.i 4, sixA (sixL s) x.i 5, sixA (sixL s) x.i 6, sixA (sixL s) x.i 7, sixA (sixL s) x.i 8, sixA (sixL s) x.i 9, sixA (sixL s) x.i 10, sixA (sixL s) x.i 11, sixA (sixL s) x.i 12, sixA (sixL s) x.i 13, sixA (sixL s) x.i 14, sixA (sixL s) x.i 15].length ∧ (0 : Int) ≤ (2 : Int) * (siV_d s x) + (1 : Int) ∧ (2 : Int) * (siV_d s x) + (1 : Int) < (↑(16 : Nat) : Int) ∧ ((2 : Int) * (siV_d s x) + (1 : Int)).toNat < [bif ((2 : Int) * (siV_d s x)).toNat.beq 0 then IntKind.u8.wrap (siV_c s x) else sixA (sixL s) x.i 0, bif ((2 : Int) * (siV_d s x)).toNat.beq ((1 : Nat)) then IntKind.u8.wrap (siV_c s x) else sixA (sixL s) x.i 1, bif ((2 : Int) * (siV_d s x)).toNat.beq ((2 : Nat)) then IntKind.u8.wrap (siV_c s x) else sixA (sixL s) x.i 2, bif ((2 : Int) * (siV_d s x)).toNat.beq ((3 : Nat)) then IntKind.u8.wrap (siV_c s x) else sixA (sixL s) x.i 3, bif ((2 : Int) * (siV_d s x)).toNat.beq ((4 : Nat)) then IntKind.u8.wrap (siV_c s x) else sixA (sixL s) x.i 4, bif ((2 : Int) * (siV_d s x)).toNat.beq ((5 : Nat)) then IntKind.u8.wrap (siV_c s x) else sixA (sixL s) x.i 5, bif ((2 : Int) * (siV_d s x)).toNat.beq ((6 : Nat)) then IntKind.u8.wrap (siV_c s x) else sixA (sixL s) x.i 6, bif ((2 : Int) * (siV_d s x)).toNat.beq ((7 : Nat)) then IntKind.u8.wrap (siV_c s x) else sixA (sixL s) x.i 7, bif ((2 : Int) * (siV_d s x)).toNat.beq ((8 : Nat)) then IntKind.u8.wrap (siV_c s x) else sixA (sixL s) x.i 8, bif ((2 : Int) * (siV_d s x)).toNat.beq ((9 : Nat)) then IntKind.u8.wrap (siV_c s x) else sixA (sixL s) x.i 9, bif ((2 : Int) * (siV_d s x)).toNat.beq ((10 : Nat)) then IntKind.u8.wrap (siV_c s x) else sixA (sixL s) x.i 10, bif ((2 : Int) * (siV_d s x)).toNat.beq ((11 : Nat)) then IntKind.u8.wrap (siV_c s x) else sixA (sixL s) x.i 11, bif ((2 : Int) * (siV_d s x)).toNat.beq ((12 : Nat)) then IntKind.u8.wrap (siV_c s x) else sixA (sixL s) x.i 12, bif ((2 : Int) * (siV_d s x)).toNat.beq ((13 : Nat)) then IntKind.u8.wrap (siV_c s x) else sixA (sixL s) x.i 13, bif ((2 : Int) * (siV_d s x)).toNat.beq ((14 : Nat)) then IntKind.u8.wrap (siV_c s x) else sixA (sixL s) x.i 14, bif ((2 : Int) * (siV_d s x)).toNat.beq ((15 : Nat)) then IntKind.u8.wrap (siV_c s x) else sixA (sixL s) x.i 15].length ∧ in64 ((↑x.i : Int) + (1 : Int)) ∧ ∃ (x' : (siI s).σ), (x'.i ≤ sixT s ∧ sixOk (sixL s) x'.i = true) ∧ sixT s - x'.i < sixT s - x.i ∧ true = true ∧ (↑x.i : Int) + (1 : Int) = (↑x'.i : Int) ∧ XV.ptr 0 0 0 0 = XV.ptr 0 0 0 0 ∧ false = false ∧ (siV_i s) ∧ (siV_j s) ∧ XV.ptr 1 0 0 0 = XV.ptr 1 0 0 0 ∧ (siV_m s) ∧ (↑(sixT s) : Int) = (↑(sixT s) : Int) ∧ siV_f ∧ (siV_a s x x') ∧ True) ∧ (decide ((↑x.i : Int) ≥ (↑(sixL s).l.length : Int)) = false → in64 ((2 : Int) * (↑x.i : Int)) ∧ in64 ((2 : Int) * (↑x.i : Int)) ∧ in64 ((2 : Int) * (↑x.i : Int) + (1 : Int)) ∧ (0 : Int) ≤ (2 : Int) * (↑x.i : Int) ∧ (2 : Int) * (↑x.i : Int) < (↑(16 : Nat) : Int) ∧ ((2 : Int) * (↑x.i : Int)).toNat < [sixA (sixL s) x.i 0, sixA (sixL s) x.i 1, sixA (sixL s) x.i 2, sixA (sixL s) x.i 3, sixA (sixL s) x.i 4, sixA (sixL s) x.i 5, sixA (sixL s) x.i 6, sixA (sixL s) x.i 7, sixA (sixL s) x.i 8, sixA (sixL s) x.i 9, sixA (sixL s) x.i 10, sixA (sixL s) x.i 11, sixA (sixL s) x.i 12, sixA (sixL s) x.i 13, sixA (sixL s) x.i 14, sixA (sixL s) x.i 15].length ∧ (0 : Int) ≤ (2 : Int) * (↑x.i : Int) + (1 : Int) ∧ (2 : Int) * (↑x.i : Int) + (1 : Int) < (↑(16 : Nat) : Int) ∧ ((2 : Int) * (↑x.i : Int) + (1 : Int)).toNat < [bif ((2 : Int) * (↑x.i : Int)).toNat.beq 0 then IntKind.u8.wrap (siV_c s x) else sixA (sixL s) x.i 0, bif ((2 : Int) * (↑x.i : Int)).toNat.beq ((1 : Nat)) then IntKind.u8.wrap (siV_c s x) else sixA (sixL s) x.i 1, bif ((2 : Int) * (↑x.i : Int)).toNat.beq ((2 : Nat)) then IntKind.u8.wrap (siV_c s x) else sixA (sixL s) x.i 2, bif ((2 : Int) * (↑x.i : Int)).toNat.beq ((3 : Nat)) then IntKind.u8.wrap (siV_c s x) else sixA (sixL s) x.i 3, bif ((2 : Int) * (↑x.i : Int)).toNat.beq ((4 : Nat)) then IntKind.u8.wrap (siV_c s x) else sixA (sixL s) x.i 4, bif ((2 : Int) * (↑x.i : Int)).toNat.beq ((5 : Nat)) then IntKind.u8.wrap (siV_c s x) else sixA (sixL s) x.i 5, bif ((2 : Int) * (↑x.i : Int)).toNat.beq ((6 : Nat)) then IntKind.u8.wrap (siV_c s x) else sixA (sixL s) x.i 6, bif ((2 : Int) * (↑x.i : Int)).toNat.beq ((7 : Nat)) then IntKind.u8.wrap (siV_c s x) else sixA (sixL s) x.i 7, bif ((2 : Int) * (↑x.i : Int)).toNat.beq ((8 : Nat)) then IntKind.u8.wrap (siV_c s x) else sixA (sixL s) x.i 8, bif ((2 : Int) * (↑x.i : Int)).toNat.beq ((9 : Nat)) then IntKind.u8.wrap (siV_c s x) else sixA (sixL s) x.i 9, bif ((2 : Int) * (↑x.i : Int)).toNat.beq ((10 : Nat)) then IntKind.u8.wrap (siV_c s x) else sixA (sixL s) x.i 10, bif ((2 : Int) * (↑x.i : Int)).toNat.beq ((11 : Nat)) then IntKind.u8.wrap (siV_c s x) else sixA (sixL s) x.i 11, bif ((2 : Int) * (↑x.i : Int)).toNat.beq ((12 : Nat)) then IntKind.u8.wrap (siV_c s x) else sixA (sixL s) x.i 12, bif ((2 : Int) * (↑x.i : Int)).toNat.beq ((13 : Nat)) then IntKind.u8.wrap (siV_c s x) else sixA (sixL s) x.i 13, bif ((2 : Int) * (↑x.i : Int)).toNat.beq ((14 : Nat)) then IntKind.u8.wrap (siV_c s x) else sixA (sixL s) x.i 14, bif ((2 : Int) * (↑x.i : Int)).toNat.beq ((15 : Nat)) then IntKind.u8.wrap (siV_c s x) else sixA (sixL s) x.i 15].length ∧ in64 ((↑x.i : Int) + (1 : Int)) ∧ ∃ (x' : (siI s).σ), (x'.i ≤ sixT s ∧ sixOk (sixL s) x'.i = true) ∧ sixT s - x'.i < sixT s - x.i ∧ true = true ∧ (↑x.i : Int) + (1 : Int) = (↑x'.i : Int) ∧ XV.ptr 0 0 0 0 = XV.ptr 0 0 0 0 ∧ false = false ∧ (siV_i s) ∧ (siV_j s) ∧ XV.ptr 1 0 0 0 = XV.ptr 1 0 0 0 ∧ (siV_m s) ∧ (↑(sixT s) : Int) = (↑(sixT s) : Int) ∧ siV_f ∧ (siV_b s x x') ∧ True)) ∧ (siV_o s x) ∧ (siV_p s x) ∧ True) ∧ (siV_g s x)) ∧ ((!decide ((siV_h s).snd.fst = ⟨#[]⟩)) = false → (in64 ((↑(siV_q s).length : Int) + (↑(0 : Nat) : Int)) ∧ ((decide ((↑(siV_q s).length : Int) + (↑(0 : Nat) : Int) > (8 : Int)) || !(siV_h s).snd.snd && (↑(siV_q s).length : Int) != (8 : Int)) = true → (siV_e s) ∧ false = (six s).snd ∧ True) ∧ ((decide ((↑(siV_q s).length : Int) + (↑(0 : Nat) : Int) > (8 : Int)) || !(siV_h s).snd.snd && (↑(siV_q s).length : Int) != (8 : Int)) = false → ∃ (x : (siA s).σ), (sixT s ≤ (8 : Nat) ∧ (siV_s s)) ∧ true = true ∧ XV.ptr 0 0 0 0 = XV.ptr 0 0 0 0 ∧ false = false ∧ ((XV.fz (siV_q s).length 1 fun (i : Nat) => [XT ((siV_q s).getD i ⟨#[]⟩)]) = XV.fz (sixL s).l.length 1 fun (i : Nat) => [XT ((sixL s).l.getD i ⟨#[]⟩)]) ∧ ((XV.fz 0 1 fun (x : Nat) => [XT (⟨#[]⟩)]) = XV.fz (sixL s).r.length 1 fun (i : Nat) => [XT ((sixL s).r.getD i ⟨#[]⟩)]) ∧ siV_l ∧ True)) ∧ ∀ (x : UX), sixT s ≤ (8 : Nat) ∧ (siV_s s) → (↑(sixL s).l.length : Int) = (↑(sixL s).l.length : Int) ∧ (↑(sixL s).l.length : Int) = (↑(sixL s).l.length : Int) ∧ ((sixL s).l.length + (sixL s).r.length) * (16 : Nat) ≤ (140737488355328 : Nat) ∧ (sixL s).l.length + (sixL s).r.length ≤ (140737488355328 : Nat) ∧ (∃ (x : (siI s).σ), (x.i ≤ sixT s ∧ sixOk (sixL s) x.i = true) ∧ true = true ∧ (0 : Int) = (↑x.i : Int) ∧ XV.ptr 0 0 0 0 = XV.ptr 0 0 0 0 ∧ false = false ∧ (siV_i s) ∧ (siV_j s) ∧ XV.ptr 1 0 0 0 = XV.ptr 1 0 0 0 ∧ (siV_n s) ∧ (↑((sixL s).l.length + (sixL s).r.length) : Int) = (↑(sixT s) : Int) ∧ siV_f ∧ (siV_k s x) ∧ True) ∧ ∀ (x : IXAd), x.i ≤ sixT s ∧ sixOk (sixL s) x.i = true → (decide ((↑x.i : Int) < (↑(sixT s) : Int)) = true → (0 : Int) ≤ (↑x.i : Int) ∧ (↑x.i : Int) < (↑((sixL s).l.length + (sixL s).r.length) : Int) ∧ (sixQ (sixL s) (↑x.i : Int).toNat).size ≤ (1000000 : Nat) ∧ (16 : Int) = (16 : Int) ∧ ((pu16 (sixQ (sixL s) (↑x.i : Int).toNat)).fst = (0 : Nat) → (decide ((↑x.i : Int) ≥ (↑(sixL s).l.length : Int)) = true → in64 ((8 : Int) - (↑(sixL s).l.length : Int)) ∧ in64 ((8 : Int) - (↑(sixL s).l.length : Int) - (↑(sixL s).r.length : Int)) ∧ in64 (siV_d s x) ∧ in64 ((2 : Int) * (siV_d s x)) ∧ in64 ((2 : Int) * (siV_d s x)) ∧ in64 ((2 : Int) * (siV_d s x) + (1 : Int)) ∧ (0 : Int) ≤ (2 : Int) * (siV_d s x) ∧ (2 : Int) * (siV_d s x) < (↑(16 : Nat) : Int) ∧ ((2 : Int) * (siV_d s x)).toNat < [sixA (sixL s) x.i 0, sixA (sixL s) x.i 1, sixA (sixL s) x.i 2, sixA (sixL s) x.i 3, sixA (sixL s) x.i 4, sixA (sixL s) x.i 5, sixA (sixL s) x.i 6, sixA (sixL s) x.i 7, sixA (sixL s) x.i 8, sixA (sixL s) x.i 9, sixA (sixL s) x.i 10, sixA (sixL s) x.i 11, sixA (sixL s) x.i 12, sixA (sixL s) x.i 13, sixA (sixL s) x.i 14, sixA (sixL s) x.i 15].length ∧ (0 : Int) ≤ (2 : Int) * (siV_d s x) + (1 : Int) ∧ (2 : Int) * (siV_d s x) + (1 : Int) < (↑(16 : Nat) : Int) ∧ ((2 : Int) * (siV_d s x) + (1 : Int)).toNat < [bif ((2 : Int) * (siV_d s x)).toNat.beq 0 then IntKind.u8.wrap (siV_c s x) else sixA (sixL s) x.i 0, bif ((2 : Int) * (siV_d s x)).toNat.beq ((1 : Nat)) then IntKind.u8.wrap (siV_c s x) else sixA (sixL s) x.i 1, bif ((2 : Int) * (siV_d s x)).toNat.beq ((2 : Nat)) then IntKind.u8.wrap (siV_c s x) else sixA (sixL s) x.i 2, bif ((2 : Int) * (siV_d s x)).toNat.beq ((3 : Nat)) then IntKind.u8.wrap (siV_c s x) else sixA (sixL s) x.i 3, bif ((2 : Int) * (siV_d s x)).toNat.beq ((4 : Nat)) then IntKind.u8.wrap (siV_c s x) else sixA (sixL s) x.i 4, bif ((2 : Int) * (siV_d s x)).toNat.beq ((5 : Nat)) then IntKind.u8.wrap (siV_c s x) else sixA (sixL s) x.i 5, bif ((2 : Int) * (siV_d s x)).toNat.beq ((6 : Nat)) then IntKind.u8.wrap (siV_c s x) else sixA (sixL s) x.i 6, bif ((2 : Int) * (siV_d s x)).toNat.beq ((7 : Nat)) then IntKind.u8.wrap (siV_c s x) else sixA (sixL s) x.i 7, bif ((2 : Int) * (siV_d s x)).toNat.beq ((8 : Nat)) then IntKind.u8.wrap (siV_c s x) else sixA (sixL s) x.i 8, bif ((2 : Int) * (siV_d s x)).toNat.beq ((9 : Nat)) then IntKind.u8.wrap (siV_c s x) else sixA (sixL s) x.i 9, bif ((2 : Int) * (siV_d s x)).toNat.beq ((10 : Nat)) then IntKind.u8.wrap (siV_c s x) else sixA (sixL s) x.i 10, bif ((2 : Int) * (siV_d s x)).toNat.beq ((11 : Nat)) then IntKind.u8.wrap (siV_c s x) else sixA (sixL s) x.i 11, bif ((2 : Int) * (siV_d s x)).toNat.beq ((12 : Nat)) then IntKind.u8.wrap (siV_c s x) else sixA (sixL s) x.i 12, bif ((2 : Int) * (siV_d s x)).toNat.beq ((13 : Nat)) then IntKind.u8.wrap (siV_c s x) else sixA (sixL s) x.i 13, bif ((2 : Int) * (siV_d s x)).toNat.beq ((14 : Nat)) then IntKind.u8.wrap (siV_c s x) else sixA (sixL s) x.i 14, bif ((2 : Int) * (siV_d s x)).toNat.beq ((15 : Nat)) then IntKind.u8.wrap (siV_c s x) else sixA (sixL s) x.i 15].length ∧ in64 ((↑x.i : Int) + (1 : Int)) ∧ ∃ (x' : (siI s).σ), (x'.i ≤ sixT s ∧ sixOk (sixL s) x'.i = true) ∧ sixT s - x'.i < sixT s - x.i ∧ true = true ∧ (↑x.i : Int) + (1 : Int) = (↑x'.i : Int) ∧ XV.ptr 0 0 0 0 = XV.ptr 0 0 0 0 ∧ false = false ∧ (siV_i s) ∧ (siV_j s) ∧ XV.ptr 1 0 0 0 = XV.ptr 1 0 0 0 ∧ (siV_m s) ∧ (↑(sixT s) : Int) = (↑(sixT s) : Int) ∧ siV_f ∧ (siV_a s x x') ∧ True) ∧ (decide ((↑x.i : Int) ≥ (↑(sixL s).l.length : Int)) = false → in64 ((2 : Int) * (↑x.i : Int)) ∧ in64 ((2 : Int) * (↑x.i : Int)) ∧ in64 ((2 : Int) * (↑x.i : Int) + (1 : Int)) ∧ (0 : Int) ≤ (2 : Int) * (↑x.i : Int) ∧ (2 : Int) * (↑x.i : Int) < (↑(16 : Nat) : Int) ∧ ((2 : Int) * (↑x.i : Int)).toNat < [sixA (sixL s) x.i 0, sixA (sixL s) x.i 1, sixA (sixL s) x.i 2, sixA (sixL s) x.i 3, sixA (sixL s) x.i 4, sixA (sixL s) x.i 5, sixA (sixL s) x.i 6, sixA (sixL s) x.i 7, sixA (sixL s) x.i 8, sixA (sixL s) x.i 9, sixA (sixL s) x.i 10, sixA (sixL s) x.i 11, sixA (sixL s) x.i 12, sixA (sixL s) x.i 13, sixA (sixL s) x.i 14, sixA (sixL s) x.i 15].length ∧ (0 : Int) ≤ (2 : Int) * (↑x.i : Int) + (1 : Int) ∧ (2 : Int) * (↑x.i : Int) + (1 : Int) < (↑(16 : Nat) : Int) ∧ ((2 : Int) * (↑x.i : Int) + (1 : Int)).toNat < [bif ((2 : Int) * (↑x.i : Int)).toNat.beq 0 then IntKind.u8.wrap (siV_c s x) else sixA (sixL s) x.i 0, bif ((2 : Int) * (↑x.i : Int)).toNat.beq ((1 : Nat)) then IntKind.u8.wrap (siV_c s x) else sixA (sixL s) x.i 1, bif ((2 : Int) * (↑x.i : Int)).toNat.beq ((2 : Nat)) then IntKind.u8.wrap (siV_c s x) else sixA (sixL s) x.i 2, bif ((2 : Int) * (↑x.i : Int)).toNat.beq ((3 : Nat)) then IntKind.u8.wrap (siV_c s x) else sixA (sixL s) x.i 3, bif ((2 : Int) * (↑x.i : Int)).toNat.beq ((4 : Nat)) then IntKind.u8.wrap (siV_c s x) else sixA (sixL s) x.i 4, bif ((2 : Int) * (↑x.i : Int)).toNat.beq ((5 : Nat)) then IntKind.u8.wrap (siV_c s x) else sixA (sixL s) x.i 5, bif ((2 : Int) * (↑x.i : Int)).toNat.beq ((6 : Nat)) then IntKind.u8.wrap (siV_c s x) else sixA (sixL s) x.i 6, bif ((2 : Int) * (↑x.i : Int)).toNat.beq ((7 : Nat)) then IntKind.u8.wrap (siV_c s x) else sixA (sixL s) x.i 7, bif ((2 : Int) * (↑x.i : Int)).toNat.beq ((8 : Nat)) then IntKind.u8.wrap (siV_c s x) else sixA (sixL s) x.i 8, bif ((2 : Int) * (↑x.i : Int)).toNat.beq ((9 : Nat)) then IntKind.u8.wrap (siV_c s x) else sixA (sixL s) x.i 9, bif ((2 : Int) * (↑x.i : Int)).toNat.beq ((10 : Nat)) then IntKind.u8.wrap (siV_c s x) else sixA (sixL s) x.i 10, bif ((2 : Int) * (↑x.i : Int)).toNat.beq ((11 : Nat)) then IntKind.u8.wrap (siV_c s x) else sixA (sixL s) x.i 11, bif ((2 : Int) * (↑x.i : Int)).toNat.beq ((12 : Nat)) then IntKind.u8.wrap (siV_c s x) else sixA (sixL s) x.i 12, bif ((2 : Int) * (↑x.i : Int)).toNat.beq ((13 : Nat)) then IntKind.u8.wrap (siV_c s x) else sixA (sixL s) x.i 13, bif ((2 : Int) * (↑x.i : Int)).toNat.beq ((14 : Nat)) then IntKind.u8.wrap (siV_c s x) else sixA (sixL s) x.i 14, bif ((2 : Int) * (↑x.i : Int)).toNat.beq ((15 : Nat)) then IntKind.u8.wrap (siV_c s x) else sixA (sixL s) x.i 15].length ∧ in64 ((↑x.i : Int) + (1 : Int)) ∧ ∃ (x' : (siI s).σ), (x'.i ≤ sixT s ∧ sixOk (sixL s) x'.i = true) ∧ sixT s - x'.i < sixT s - x.i ∧ true = true ∧ (↑x.i : Int) + (1 : Int) = (↑x'.i : Int) ∧ XV.ptr 0 0 0 0 = XV.ptr 0 0 0 0 ∧ false = false ∧ (siV_i s) ∧ (siV_j s) ∧ XV.ptr 1 0 0 0 = XV.ptr 1 0 0 0 ∧ (siV_m s) ∧ (↑(sixT s) : Int) = (↑(sixT s) : Int) ∧ siV_f ∧ (siV_b s x x') ∧ True)) ∧ (siV_o s x) ∧ (siV_p s x) ∧ True) ∧ (siV_g s x))) ∧ ((!decide ((siV_h s).fst = ⟨#[]⟩)) = false → ((!decide ((siV_h s).snd.fst = ⟨#[]⟩)) = true → (siV_h s).snd.fst.size < (4294967281 : Nat) ∧ (1 : Nat) ≤ (1 : Nat) ∧ (in64 ((↑(0 : Nat) : Int) + (↑(siV_r s).length : Int)) ∧ ((decide ((↑(0 : Nat) : Int) + (↑(siV_r s).length : Int) > (8 : Int)) || !(siV_h s).snd.snd && (↑(0 : Nat) : Int) != (8 : Int)) = true → (siV_e s) ∧ false = (six s).snd ∧ True) ∧ ((decide ((↑(0 : Nat) : Int) + (↑(siV_r s).length : Int) > (8 : Int)) || !(siV_h s).snd.snd && (↑(0 : Nat) : Int) != (8 : Int)) = false → ∃ (x : (siA s).σ), (sixT s ≤ (8 : Nat) ∧ (siV_s s)) ∧ true = true ∧ XV.ptr 0 0 0 0 = XV.ptr 0 0 0 0 ∧ false = false ∧ ((XV.fz 0 1 fun (x : Nat) => [XT (⟨#[]⟩)]) = XV.fz (sixL s).l.length 1 fun (i : Nat) => [XT ((sixL s).l.getD i ⟨#[]⟩)]) ∧ ((XV.fz (siV_r s).length 1 fun (i : Nat) => [XT ((siV_r s).getD i ⟨#[]⟩)]) = XV.fz (sixL s).r.length 1 fun (i : Nat) => [XT ((sixL s).r.getD i ⟨#[]⟩)]) ∧ siV_l ∧ True)) ∧ ∀ (x : UX), sixT s ≤ (8 : Nat) ∧ (siV_s s) → (↑(sixL s).l.length : Int) = (↑(sixL s).l.length : Int) ∧ (↑(sixL s).l.length : Int) = (↑(sixL s).l.length : Int) ∧ ((sixL s).l.length + (sixL s).r.length) * (16 : Nat) ≤ (140737488355328 : Nat) ∧ (sixL s).l.length + (sixL s).r.length ≤ (140737488355328 : Nat) ∧ (∃ (x : (siI s).σ), (x.i ≤ sixT s ∧ sixOk (sixL s) x.i = true) ∧ true = true ∧ (0 : Int) = (↑x.i : Int) ∧ XV.ptr 0 0 0 0 = XV.ptr 0 0 0 0 ∧ false = false ∧ (siV_i s) ∧ (siV_j s) ∧ XV.ptr 1 0 0 0 = XV.ptr 1 0 0 0 ∧ (siV_n s) ∧ (↑((sixL s).l.length + (sixL s).r.length) : Int) = (↑(sixT s) : Int) ∧ siV_f ∧ (siV_k s x) ∧ True) ∧ ∀ (x : IXAd), x.i ≤ sixT s ∧ sixOk (sixL s) x.i = true → (decide ((↑x.i : Int) < (↑(sixT s) : Int)) = true → (0 : Int) ≤ (↑x.i : Int) ∧ (↑x.i : Int) < (↑((sixL s).l.length + (sixL s).r.length) : Int) ∧ (sixQ (sixL s) (↑x.i : Int).toNat).size ≤ (1000000 : Nat) ∧ (16 : Int) = (16 : Int) ∧ ((pu16 (sixQ (sixL s) (↑x.i : Int).toNat)).fst = (0 : Nat) → (decide ((↑x.i : Int) ≥ (↑(sixL s).l.length : Int)) = true → in64 ((8 : Int) - (↑(sixL s).l.length : Int)) ∧ in64 ((8 : Int) - (↑(sixL s).l.length : Int) - (↑(sixL s).r.length : Int)) ∧ in64 (siV_d s x) ∧ in64 ((2 : Int) * (siV_d s x)) ∧ in64 ((2 : Int) * (siV_d s x)) ∧ in64 ((2 : Int) * (siV_d s x) + (1 : Int)) ∧ (0 : Int) ≤ (2 : Int) * (siV_d s x) ∧ (2 : Int) * (siV_d s x) < (↑(16 : Nat) : Int) ∧ ((2 : Int) * (siV_d s x)).toNat < [sixA (sixL s) x.i 0, sixA (sixL s) x.i 1, sixA (sixL s) x.i 2, sixA (sixL s) x.i 3, sixA (sixL s) x.i 4, sixA (sixL s) x.i 5, sixA (sixL s) x.i 6, sixA (sixL s) x.i 7, sixA (sixL s) x.i 8, sixA (sixL s) x.i 9, sixA (sixL s) x.i 10, sixA (sixL s) x.i 11, sixA (sixL s) x.i 12, sixA (sixL s) x.i 13, sixA (sixL s) x.i 14, sixA (sixL s) x.i 15].length ∧ (0 : Int) ≤ (2 : Int) * (siV_d s x) + (1 : Int) ∧ (2 : Int) * (siV_d s x) + (1 : Int) < (↑(16 : Nat) : Int) ∧ ((2 : Int) * (siV_d s x) + (1 : Int)).toNat < [bif ((2 : Int) * (siV_d s x)).toNat.beq 0 then IntKind.u8.wrap (siV_c s x) else sixA (sixL s) x.i 0, bif ((2 : Int) * (siV_d s x)).toNat.beq ((1 : Nat)) then IntKind.u8.wrap (siV_c s x) else sixA (sixL s) x.i 1, bif ((2 : Int) * (siV_d s x)).toNat.beq ((2 : Nat)) then IntKind.u8.wrap (siV_c s x) else sixA (sixL s) x.i 2, bif ((2 : Int) * (siV_d s x)).toNat.beq ((3 : Nat)) then IntKind.u8.wrap (siV_c s x) else sixA (sixL s) x.i 3, bif ((2 : Int) * (siV_d s x)).toNat.beq ((4 : Nat)) then IntKind.u8.wrap (siV_c s x) else sixA (sixL s) x.i 4, bif ((2 : Int) * (siV_d s x)).toNat.beq ((5 : Nat)) then IntKind.u8.wrap (siV_c s x) else sixA (sixL s) x.i 5, bif ((2 : Int) * (siV_d s x)).toNat.beq ((6 : Nat)) then IntKind.u8.wrap (siV_c s x) else sixA (sixL s) x.i 6, bif ((2 : Int) * (siV_d s x)).toNat.beq ((7 : Nat)) then IntKind.u8.wrap (siV_c s x) else sixA (sixL s) x.i 7, bif ((2 : Int) * (siV_d s x)).toNat.beq ((8 : Nat)) then IntKind.u8.wrap (siV_c s x) else sixA (sixL s) x.i 8, bif ((2 : Int) * (siV_d s x)).toNat.beq ((9 : Nat)) then IntKind.u8.wrap (siV_c s x) else sixA (sixL s) x.i 9, bif ((2 : Int) * (siV_d s x)).toNat.beq ((10 : Nat)) then IntKind.u8.wrap (siV_c s x) else sixA (sixL s) x.i 10, bif ((2 : Int) * (siV_d s x)).toNat.beq ((11 : Nat)) then IntKind.u8.wrap (siV_c s x) else sixA (sixL s) x.i 11, bif ((2 : Int) * (siV_d s x)).toNat.beq ((12 : Nat)) then IntKind.u8.wrap (siV_c s x) else sixA (sixL s) x.i 12, bif ((2 : Int) * (siV_d s x)).toNat.beq ((13 : Nat)) then IntKind.u8.wrap (siV_c s x) else sixA (sixL s) x.i 13, bif ((2 : Int) * (siV_d s x)).toNat.beq ((14 : Nat)) then IntKind.u8.wrap (siV_c s x) else sixA (sixL s) x.i 14, bif ((2 : Int) * (siV_d s x)).toNat.beq ((15 : Nat)) then IntKind.u8.wrap (siV_c s x) else sixA (sixL s) x.i 15].length ∧ in64 ((↑x.i : Int) + (1 : Int)) ∧ ∃ (x' : (siI s).σ), (x'.i ≤ sixT s ∧ sixOk (sixL s) x'.i = true) ∧ sixT s - x'.i < sixT s - x.i ∧ true = true ∧ (↑x.i : Int) + (1 : Int) = (↑x'.i : Int) ∧ XV.ptr 0 0 0 0 = XV.ptr 0 0 0 0 ∧ false = false ∧ (siV_i s) ∧ (siV_j s) ∧ XV.ptr 1 0 0 0 = XV.ptr 1 0 0 0 ∧ (siV_m s) ∧ (↑(sixT s) : Int) = (↑(sixT s) : Int) ∧ siV_f ∧ (siV_a s x x') ∧ True) ∧ (decide ((↑x.i : Int) ≥ (↑(sixL s).l.length : Int)) = false → in64 ((2 : Int) * (↑x.i : Int)) ∧ in64 ((2 : Int) * (↑x.i : Int)) ∧ in64 ((2 : Int) * (↑x.i : Int) + (1 : Int)) ∧ (0 : Int) ≤ (2 : Int) * (↑x.i : Int) ∧ (2 : Int) * (↑x.i : Int) < (↑(16 : Nat) : Int) ∧ ((2 : Int) * (↑x.i : Int)).toNat < [sixA (sixL s) x.i 0, sixA (sixL s) x.i 1, sixA (sixL s) x.i 2, sixA (sixL s) x.i 3, sixA (sixL s) x.i 4, sixA (sixL s) x.i 5, sixA (sixL s) x.i 6, sixA (sixL s) x.i 7, sixA (sixL s) x.i 8, sixA (sixL s) x.i 9, sixA (sixL s) x.i 10, sixA (sixL s) x.i 11, sixA (sixL s) x.i 12, sixA (sixL s) x.i 13, sixA (sixL s) x.i 14, sixA (sixL s) x.i 15].length ∧ (0 : Int) ≤ (2 : Int) * (↑x.i : Int) + (1 : Int) ∧ (2 : Int) * (↑x.i : Int) + (1 : Int) < (↑(16 : Nat) : Int) ∧ ((2 : Int) * (↑x.i : Int) + (1 : Int)).toNat < [bif ((2 : Int) * (↑x.i : Int)).toNat.beq 0 then IntKind.u8.wrap (siV_c s x) else sixA (sixL s) x.i 0, bif ((2 : Int) * (↑x.i : Int)).toNat.beq ((1 : Nat)) then IntKind.u8.wrap (siV_c s x) else sixA (sixL s) x.i 1, bif ((2 : Int) * (↑x.i : Int)).toNat.beq ((2 : Nat)) then IntKind.u8.wrap (siV_c s x) else sixA (sixL s) x.i 2, bif ((2 : Int) * (↑x.i : Int)).toNat.beq ((3 : Nat)) then IntKind.u8.wrap (siV_c s x) else sixA (sixL s) x.i 3, bif ((2 : Int) * (↑x.i : Int)).toNat.beq ((4 : Nat)) then IntKind.u8.wrap (siV_c s x) else sixA (sixL s) x.i 4, bif ((2 : Int) * (↑x.i : Int)).toNat.beq ((5 : Nat)) then IntKind.u8.wrap (siV_c s x) else sixA (sixL s) x.i 5, bif ((2 : Int) * (↑x.i : Int)).toNat.beq ((6 : Nat)) then IntKind.u8.wrap (siV_c s x) else sixA (sixL s) x.i 6, bif ((2 : Int) * (↑x.i : Int)).toNat.beq ((7 : Nat)) then IntKind.u8.wrap (siV_c s x) else sixA (sixL s) x.i 7, bif ((2 : Int) * (↑x.i : Int)).toNat.beq ((8 : Nat)) then IntKind.u8.wrap (siV_c s x) else sixA (sixL s) x.i 8, bif ((2 : Int) * (↑x.i : Int)).toNat.beq ((9 : Nat)) then IntKind.u8.wrap (siV_c s x) else sixA (sixL s) x.i 9, bif ((2 : Int) * (↑x.i : Int)).toNat.beq ((10 : Nat)) then IntKind.u8.wrap (siV_c s x) else sixA (sixL s) x.i 10, bif ((2 : Int) * (↑x.i : Int)).toNat.beq ((11 : Nat)) then IntKind.u8.wrap (siV_c s x) else sixA (sixL s) x.i 11, bif ((2 : Int) * (↑x.i : Int)).toNat.beq ((12 : Nat)) then IntKind.u8.wrap (siV_c s x) else sixA (sixL s) x.i 12, bif ((2 : Int) * (↑x.i : Int)).toNat.beq ((13 : Nat)) then IntKind.u8.wrap (siV_c s x) else sixA (sixL s) x.i 13, bif ((2 : Int) * (↑x.i : Int)).toNat.beq ((14 : Nat)) then IntKind.u8.wrap (siV_c s x) else sixA (sixL s) x.i 14, bif ((2 : Int) * (↑x.i : Int)).toNat.beq ((15 : Nat)) then IntKind.u8.wrap (siV_c s x) else sixA (sixL s) x.i 15].length ∧ in64 ((↑x.i : Int) + (1 : Int)) ∧ ∃ (x' : (siI s).σ), (x'.i ≤ sixT s ∧ sixOk (sixL s) x'.i = true) ∧ sixT s - x'.i < sixT s - x.i ∧ true = true ∧ (↑x.i : Int) + (1 : Int) = (↑x'.i : Int) ∧ XV.ptr 0 0 0 0 = XV.ptr 0 0 0 0 ∧ false = false ∧ (siV_i s) ∧ (siV_j s) ∧ XV.ptr 1 0 0 0 = XV.ptr 1 0 0 0 ∧ (siV_m s) ∧ (↑(sixT s) : Int) = (↑(sixT s) : Int) ∧ siV_f ∧ (siV_b s x x') ∧ True)) ∧ (siV_o s x) ∧ (siV_p s x) ∧ True) ∧ (siV_g s x)) ∧ ((!decide ((siV_h s).snd.fst = ⟨#[]⟩)) = false → (in64 ((↑(0 : Nat) : Int) + (↑(0 : Nat) : Int)) ∧ ((decide ((↑(0 : Nat) : Int) + (↑(0 : Nat) : Int) > (8 : Int)) || !(siV_h s).snd.snd && (↑(0 : Nat) : Int) != (8 : Int)) = true → (siV_e s) ∧ false = (six s).snd ∧ True) ∧ ((decide ((↑(0 : Nat) : Int) + (↑(0 : Nat) : Int) > (8 : Int)) || !(siV_h s).snd.snd && (↑(0 : Nat) : Int) != (8 : Int)) = false → ∃ (x : (siA s).σ), (sixT s ≤ (8 : Nat) ∧ (siV_s s)) ∧ true = true ∧ XV.ptr 0 0 0 0 = XV.ptr 0 0 0 0 ∧ false = false ∧ ((XV.fz 0 1 fun (x : Nat) => [XT (⟨#[]⟩)]) = XV.fz (sixL s).l.length 1 fun (i : Nat) => [XT ((sixL s).l.getD i ⟨#[]⟩)]) ∧ ((XV.fz 0 1 fun (x : Nat) => [XT (⟨#[]⟩)]) = XV.fz (sixL s).r.length 1 fun (i : Nat) => [XT ((sixL s).r.getD i ⟨#[]⟩)]) ∧ siV_l ∧ True)) ∧ ∀ (x : UX), sixT s ≤ (8 : Nat) ∧ (siV_s s) → (↑(sixL s).l.length : Int) = (↑(sixL s).l.length : Int) ∧ (↑(sixL s).l.length : Int) = (↑(sixL s).l.length : Int) ∧ ((sixL s).l.length + (sixL s).r.length) * (16 : Nat) ≤ (140737488355328 : Nat) ∧ (sixL s).l.length + (sixL s).r.length ≤ (140737488355328 : Nat) ∧ (∃ (x : (siI s).σ), (x.i ≤ sixT s ∧ sixOk (sixL s) x.i = true) ∧ true = true ∧ (0 : Int) = (↑x.i : Int) ∧ XV.ptr 0 0 0 0 = XV.ptr 0 0 0 0 ∧ false = false ∧ (siV_i s) ∧ (siV_j s) ∧ XV.ptr 1 0 0 0 = XV.ptr 1 0 0 0 ∧ (siV_n s) ∧ (↑((sixL s).l.length + (sixL s).r.length) : Int) = (↑(sixT s) : Int) ∧ siV_f ∧ (siV_k s x) ∧ True) ∧ ∀ (x : IXAd), x.i ≤ sixT s ∧ sixOk (sixL s) x.i = true → (decide ((↑x.i : Int) < (↑(sixT s) : Int)) = true → (0 : Int) ≤ (↑x.i : Int) ∧ (↑x.i : Int) < (↑((sixL s).l.length + (sixL s).r.length) : Int) ∧ (sixQ (sixL s) (↑x.i : Int).toNat).size ≤ (1000000 : Nat) ∧ (16 : Int) = (16 : Int) ∧ ((pu16 (sixQ (sixL s) (↑x.i : Int).toNat)).fst = (0 : Nat) → (decide ((↑x.i : Int) ≥ (↑(sixL s).l.length : Int)) = true → in64 ((8 : Int) - (↑(sixL s).l.length : Int)) ∧ in64 ((8 : Int) - (↑(sixL s).l.length : Int) - (↑(sixL s).r.length : Int)) ∧ in64 (siV_d s x) ∧ in64 ((2 : Int) * (siV_d s x)) ∧ in64 ((2 : Int) * (siV_d s x)) ∧ in64 ((2 : Int) * (siV_d s x) + (1 : Int)) ∧ (0 : Int) ≤ (2 : Int) * (siV_d s x) ∧ (2 : Int) * (siV_d s x) < (↑(16 : Nat) : Int) ∧ ((2 : Int) * (siV_d s x)).toNat < [sixA (sixL s) x.i 0, sixA (sixL s) x.i 1, sixA (sixL s) x.i 2, sixA (sixL s) x.i 3, sixA (sixL s) x.i 4, sixA (sixL s) x.i 5, sixA (sixL s) x.i 6, sixA (sixL s) x.i 7, sixA (sixL s) x.i 8, sixA (sixL s) x.i 9, sixA (sixL s) x.i 10, sixA (sixL s) x.i 11, sixA (sixL s) x.i 12, sixA (sixL s) x.i 13, sixA (sixL s) x.i 14, sixA (sixL s) x.i 15].length ∧ (0 : Int) ≤ (2 : Int) * (siV_d s x) + (1 : Int) ∧ (2 : Int) * (siV_d s x) + (1 : Int) < (↑(16 : Nat) : Int) ∧ ((2 : Int) * (siV_d s x) + (1 : Int)).toNat < [bif ((2 : Int) * (siV_d s x)).toNat.beq 0 then IntKind.u8.wrap (siV_c s x) else sixA (sixL s) x.i 0, bif ((2 : Int) * (siV_d s x)).toNat.beq ((1 : Nat)) then IntKind.u8.wrap (siV_c s x) else sixA (sixL s) x.i 1, bif ((2 : Int) * (siV_d s x)).toNat.beq ((2 : Nat)) then IntKind.u8.wrap (siV_c s x) else sixA (sixL s) x.i 2, bif ((2 : Int) * (siV_d s x)).toNat.beq ((3 : Nat)) then IntKind.u8.wrap (siV_c s x) else sixA (sixL s) x.i 3, bif ((2 : Int) * (siV_d s x)).toNat.beq ((4 : Nat)) then IntKind.u8.wrap (siV_c s x) else sixA (sixL s) x.i 4, bif ((2 : Int) * (siV_d s x)).toNat.beq ((5 : Nat)) then IntKind.u8.wrap (siV_c s x) else sixA (sixL s) x.i 5, bif ((2 : Int) * (siV_d s x)).toNat.beq ((6 : Nat)) then IntKind.u8.wrap (siV_c s x) else sixA (sixL s) x.i 6, bif ((2 : Int) * (siV_d s x)).toNat.beq ((7 : Nat)) then IntKind.u8.wrap (siV_c s x) else sixA (sixL s) x.i 7, bif ((2 : Int) * (siV_d s x)).toNat.beq ((8 : Nat)) then IntKind.u8.wrap (siV_c s x) else sixA (sixL s) x.i 8, bif ((2 : Int) * (siV_d s x)).toNat.beq ((9 : Nat)) then IntKind.u8.wrap (siV_c s x) else sixA (sixL s) x.i 9, bif ((2 : Int) * (siV_d s x)).toNat.beq ((10 : Nat)) then IntKind.u8.wrap (siV_c s x) else sixA (sixL s) x.i 10, bif ((2 : Int) * (siV_d s x)).toNat.beq ((11 : Nat)) then IntKind.u8.wrap (siV_c s x) else sixA (sixL s) x.i 11, bif ((2 : Int) * (siV_d s x)).toNat.beq ((12 : Nat)) then IntKind.u8.wrap (siV_c s x) else sixA (sixL s) x.i 12, bif ((2 : Int) * (siV_d s x)).toNat.beq ((13 : Nat)) then IntKind.u8.wrap (siV_c s x) else sixA (sixL s) x.i 13, bif ((2 : Int) * (siV_d s x)).toNat.beq ((14 : Nat)) then IntKind.u8.wrap (siV_c s x) else sixA (sixL s) x.i 14, bif ((2 : Int) * (siV_d s x)).toNat.beq ((15 : Nat)) then IntKind.u8.wrap (siV_c s x) else sixA (sixL s) x.i 15].length ∧ in64 ((↑x.i : Int) + (1 : Int)) ∧ ∃ (x' : (siI s).σ), (x'.i ≤ sixT s ∧ sixOk (sixL s) x'.i = true) ∧ sixT s - x'.i < sixT s - x.i ∧ true = true ∧ (↑x.i : Int) + (1 : Int) = (↑x'.i : Int) ∧ XV.ptr 0 0 0 0 = XV.ptr 0 0 0 0 ∧ false = false ∧ (siV_i s) ∧ (siV_j s) ∧ XV.ptr 1 0 0 0 = XV.ptr 1 0 0 0 ∧ (siV_m s) ∧ (↑(sixT s) : Int) = (↑(sixT s) : Int) ∧ siV_f ∧ (siV_a s x x') ∧ True) ∧ (decide ((↑x.i : Int) ≥ (↑(sixL s).l.length : Int)) = false → in64 ((2 : Int) * (↑x.i : Int)) ∧ in64 ((2 : Int) * (↑x.i : Int)) ∧ in64 ((2 : Int) * (↑x.i : Int) + (1 : Int)) ∧ (0 : Int) ≤ (2 : Int) * (↑x.i : Int) ∧ (2 : Int) * (↑x.i : Int) < (↑(16 : Nat) : Int) ∧ ((2 : Int) * (↑x.i : Int)).toNat < [sixA (sixL s) x.i 0, sixA (sixL s) x.i 1, sixA (sixL s) x.i 2, sixA (sixL s) x.i 3, sixA (sixL s) x.i 4, sixA (sixL s) x.i 5, sixA (sixL s) x.i 6, sixA (sixL s) x.i 7, sixA (sixL s) x.i 8, sixA (sixL s) x.i 9, sixA (sixL s) x.i 10, sixA (sixL s) x.i 11, sixA (sixL s) x.i 12, sixA (sixL s) x.i 13, sixA (sixL s) x.i 14, sixA (sixL s) x.i 15].length ∧ (0 : Int) ≤ (2 : Int) * (↑x.i : Int) + (1 : Int) ∧ (2 : Int) * (↑x.i : Int) + (1 : Int) < (↑(16 : Nat) : Int) ∧ ((2 : Int) * (↑x.i : Int) + (1 : Int)).toNat < [bif ((2 : Int) * (↑x.i : Int)).toNat.beq 0 then IntKind.u8.wrap (siV_c s x) else sixA (sixL s) x.i 0, bif ((2 : Int) * (↑x.i : Int)).toNat.beq ((1 : Nat)) then IntKind.u8.wrap (siV_c s x) else sixA (sixL s) x.i 1, bif ((2 : Int) * (↑x.i : Int)).toNat.beq ((2 : Nat)) then IntKind.u8.wrap (siV_c s x) else sixA (sixL s) x.i 2, bif ((2 : Int) * (↑x.i : Int)).toNat.beq ((3 : Nat)) then IntKind.u8.wrap (siV_c s x) else sixA (sixL s) x.i 3, bif ((2 : Int) * (↑x.i : Int)).toNat.beq ((4 : Nat)) then IntKind.u8.wrap (siV_c s x) else sixA (sixL s) x.i 4, bif ((2 : Int) * (↑x.i : Int)).toNat.beq ((5 : Nat)) then IntKind.u8.wrap (siV_c s x) else sixA (sixL s) x.i 5, bif ((2 : Int) * (↑x.i : Int)).toNat.beq ((6 : Nat)) then IntKind.u8.wrap (siV_c s x) else sixA (sixL s) x.i 6, bif ((2 : Int) * (↑x.i : Int)).toNat.beq ((7 : Nat)) then IntKind.u8.wrap (siV_c s x) else sixA (sixL s) x.i 7, bif ((2 : Int) * (↑x.i : Int)).toNat.beq ((8 : Nat)) then IntKind.u8.wrap (siV_c s x) else sixA (sixL s) x.i 8, bif ((2 : Int) * (↑x.i : Int)).toNat.beq ((9 : Nat)) then IntKind.u8.wrap (siV_c s x) else sixA (sixL s) x.i 9, bif ((2 : Int) * (↑x.i : Int)).toNat.beq ((10 : Nat)) then IntKind.u8.wrap (siV_c s x) else sixA (sixL s) x.i 10, bif ((2 : Int) * (↑x.i : Int)).toNat.beq ((11 : Nat)) then IntKind.u8.wrap (siV_c s x) else sixA (sixL s) x.i 11, bif ((2 : Int) * (↑x.i : Int)).toNat.beq ((12 : Nat)) then IntKind.u8.wrap (siV_c s x) else sixA (sixL s) x.i 12, bif ((2 : Int) * (↑x.i : Int)).toNat.beq ((13 : Nat)) then IntKind.u8.wrap (siV_c s x) else sixA (sixL s) x.i 13, bif ((2 : Int) * (↑x.i : Int)).toNat.beq ((14 : Nat)) then IntKind.u8.wrap (siV_c s x) else sixA (sixL s) x.i 14, bif ((2 : Int) * (↑x.i : Int)).toNat.beq ((15 : Nat)) then IntKind.u8.wrap (siV_c s x) else sixA (sixL s) x.i 15].length ∧ in64 ((↑x.i : Int) + (1 : Int)) ∧ ∃ (x' : (siI s).σ), (x'.i ≤ sixT s ∧ sixOk (sixL s) x'.i = true) ∧ sixT s - x'.i < sixT s - x.i ∧ true = true ∧ (↑x.i : Int) + (1 : Int) = (↑x'.i : Int) ∧ XV.ptr 0 0 0 0 = XV.ptr 0 0 0 0 ∧ false = false ∧ (siV_i s) ∧ (siV_j s) ∧ XV.ptr 1 0 0 0 = XV.ptr 1 0 0 0 ∧ (siV_m s) ∧ (↑(sixT s) : Int) = (↑(sixT s) : Int) ∧ siV_f ∧ (siV_b s x x') ∧ True)) ∧ (siV_o s x) ∧ (siV_p s x) ∧ True) ∧ (siV_g s x)))
theorem siV_eq (s : ByteArray) : siV s = (funC cxgAd Tryz.f34 (mkSc (siE s) (bodyOf Tryz.f34)) [XT s] (.tup [adr (six s).1, XB (six s).2])) := by kernel_rfl
theorem cutB_size2 (s sep : ByteArray) : (cutB s sep).1.size ≤ s.size ∧ (cutB s sep).2.1.size ≤ s.size := by
 constructor
 ·show (mk8 (Lib.cut s.data.toList sep.data.toList).1).size ≤ _
  rw [mk8_size, size_data s]
  unfold Lib.cut
  split
  ·exact (List.take_sublist _ _).length_le
  ·exact Nat.le_refl _
 ·show (mk8 (Lib.cut s.data.toList sep.data.toList).2.1).size ≤ _
  rw [mk8_size, size_data s]
  unfold Lib.cut
  split
  ·exact (List.drop_sublist _ _).length_le
  ·exact Nat.zero_le _
theorem side_size (s : ByteArray) (i : Nat) : (pcs (side s) i).size ≤ s.size := by
 unfold side
 split
 ·unfold pcs; rw [List.getD_nil]; exact Nat.zero_le _
 ·exact pieces_size s 58 i
theorem sixQ_size (s : ByteArray) (i : Nat) : (sixQ (sixL s) i).size ≤ s.size := by
 have h := cutB_size2 s ⟨#[58, 58]⟩
 unfold sixQ
 split
 ·exact Nat.le_trans (side_size _ _) h.1
 ·exact Nat.le_trans (side_size _ _) h.2
theorem sixA_succ (p : LR) (i m k : Nat) (h : m = sixP p i) : (bif (2 * (m : Int) + 1).toNat.beq k then IntKind.u8.wrap ((pu16 (sixQ p i)).2 : Int) else bif (2 * (m : Int)).toNat.beq k then IntKind.u8.wrap (((pu16 (sixQ p i)).2 : Int).fdiv (2 ^ 8)) else sixA p i k) = sixA p (i + 1) k := by
 subst h
 show _ = if k = 2 * sixP p i + 1 then _ else if k = 2 * sixP p i then _ else sixA p i k
 rw [beqN, beqN, show (2 * (sixP p i : Int) + 1).toNat = 2 * sixP p i + 1 by omega, show (2 * (sixP p i : Int)).toNat = 2 * sixP p i by omega]
 by_cases h1 : 2 * sixP p i + 1 = k
 ·rw [decide_eq_true h1, cond_true, if_pos h1.symm]
 ·rw [decide_eq_false h1, cond_false, if_neg (Ne.symm h1)]
  by_cases h2 : 2 * sixP p i = k
  ·rw [decide_eq_true h2, cond_true, if_pos h2.symm]
  ·rw [decide_eq_false h2, cond_false, if_neg (Ne.symm h2)]
theorem sixOk_le (p : LR) : ∀ m, sixOk p m = true → ∀ k, k < m → (pu16 (sixQ p k)).1 = 0
 | m + 1, h, k, hk => by
  unfold sixOk at h
  simp only [Bool.and_eq_true, decide_eq_true_eq] at h
  by_cases e : k = m
  ·rw [e]; exact h.2
  ·exact sixOk_le p m h.1 k (by omega)
theorem six_fz (s : ByteArray) : (XV.fz ((sixL s).l.length + (sixL s).r.length) 1 fun j => [XT (bif j.blt (sixL s).l.length then (sixL s).l.getD j ⟨#[]⟩ else (sixL s).r.getD (j - (sixL s).l.length) ⟨#[]⟩)]) = XV.fz ((sixL s).l.length + (sixL s).r.length) 1 fun j => [XT (sixQ (sixL s) j)] := by
 congr 1
 funext j
 unfold sixQ
 rw [bltN]
 by_cases h : j < (sixL s).l.length
 ·rw [decide_eq_true h, cond_true, if_pos h]; rfl
 ·rw [decide_eq_false h, cond_false, if_neg h]; rfl
theorem sixA_at (p : LR) (i k : Nat) (a : Int) (h : a = (sixP p i : Int)) : (bif (2 * a + 1).toNat.beq k then IntKind.u8.wrap ((pu16 (sixQ p i)).2 : Int) else bif (2 * a).toNat.beq k then IntKind.u8.wrap (((pu16 (sixQ p i)).2 : Int).fdiv (2 ^ 8)) else sixA p i k) = sixA p (i + 1) k := by
 subst h
 exact sixA_succ p i (sixP p i) k rfl
theorem side_ne {s : ByteArray} (h : (!decide (s = ⟨#[]⟩)) = true) : side s = splitS s ⟨#[58]⟩ := if_neg (by simpa using h)
theorem side_eq {s : ByteArray} (h : (!decide (s = ⟨#[]⟩)) = false) : side s = [] := if_pos (by simpa using h)
theorem sixL_of {s : ByteArray} {l r : List ByteArray} (hl : side (cutB s ⟨#[58, 58]⟩).1 = l) (hr : side (cutB s ⟨#[58, 58]⟩).2.1 = r) : sixL s = ⟨l, r⟩ := by unfold sixL; rw [hl, hr]
theorem six_bad {s : ByteArray} (h : ¬ ((sixL s).l.length + (sixL s).r.length ≤ 8 ∧ ((cutB s ⟨#[58, 58]⟩).2.2 = true ∨ (sixL s).l.length = 8))) : six s = (zeroA, false) := if_neg fun e => h e.1
theorem six_dec {s : ByteArray} {a b : Int} (ha : a = ((sixL s).l.length : Int)) (hb : b = ((sixL s).r.length : Int)) (h : (decide (a + b > 8) || !(cutB s ⟨#[58, 58]⟩).2.2 && a != 8) = true) : six s = (zeroA, false) := by
 subst ha hb
 refine six_bad fun e => ?_
 rcases e.2 with h2 | h2
 ·rw [h2, decide_eq_false (by omega)] at h; exact absurd h (by simp)
 ·rw [h2, decide_eq_false (by omega)] at h; exact absurd h (by simp)
theorem six_dec' {s : ByteArray} {a b : Int} (ha : a = ((sixL s).l.length : Int)) (hb : b = ((sixL s).r.length : Int)) (h : (decide (a + b > 8) || !(cutB s ⟨#[58, 58]⟩).2.2 && a != 8) = false) : sixT s ≤ 8 ∧ ((cutB s ⟨#[58, 58]⟩).2.2 = true ∨ (sixL s).l.length = 8) := by
 subst ha hb
 rw [Bool.or_eq_false_iff] at h
 refine ⟨?_, ?_⟩
 ·have := of_decide_eq_false h.1
  unfold sixT; omega
 ·rcases e : (cutB s ⟨#[58, 58]⟩).2.2 with _ | _
  ·rw [e] at h
   have h := h.2
   simp at h
   exact .inr (by omega)
  ·exact .inl rfl
theorem si_v (s : ByteArray) (hs : s.size ≤ 1000000) : siV s := by
 unfold siV siV_s siV_r siV_q siV_p siV_o siV_n siV_m siV_l siV_k siV_j siV_i siV_h siV_g siV_f siV_e siV_a siV_d siV_b siV_c
 obtain ⟨c1, c2⟩ := cutB_size2 s ⟨#[58, 58]⟩
 have l1 := splitS_len (cutB s ⟨#[58, 58]⟩).1 58
 have l2 := splitS_len (cutB s ⟨#[58, 58]⟩).2.1 58
 have z : ∀ (h : six s = (zeroA, false)), (0 = (six s).1 0 ∧ 0 = (six s).1 1 ∧ 0 = (six s).1 2 ∧ 0 = (six s).1 3 ∧ 0 = (six s).1 4 ∧ 0 = (six s).1 5 ∧ 0 = (six s).1 6 ∧ 0 = (six s).1 7 ∧ 0 = (six s).1 8 ∧ 0 = (six s).1 9 ∧ 0 = (six s).1 10 ∧ 0 = (six s).1 11 ∧ 0 = (six s).1 12 ∧ 0 = (six s).1 13 ∧ 0 = (six s).1 14 ∧ 0 = (six s).1 15 ∧ True) ∧ false = (six s).2 ∧ True := by
  intro h
  rw [h]
  exact ⟨⟨rfl, rfl, rfl, rfl, rfl, rfl, rfl, rfl, rfl, rfl, rfl, rfl, rfl, rfl, rfl, rfl, trivial⟩, rfl, trivial⟩
 refine ⟨by omega, fun h1 => ⟨by omega, Nat.le_refl _, fun h2 => ⟨by omega, Nat.le_refl _, ⟨by unfold in64; omega, fun h3 => ?a1, fun h3 => ?a2⟩, ?a3⟩, fun h2 => ⟨⟨by unfold in64; omega, fun h3 => ?b1, fun h3 => ?b2⟩, ?b3⟩⟩, fun h1 => ⟨fun h2 => ⟨by omega, Nat.le_refl _, ⟨by unfold in64; omega, fun h3 => ?c1, fun h3 => ?c2⟩, ?c3⟩, fun h2 => ⟨⟨by unfold in64; omega, fun h3 => ?d1, fun h3 => ?d2⟩, ?d3⟩⟩⟩
 case a1 => exact z (six_dec (by unfold sixL; rw [side_ne h1]) (by unfold sixL; rw [side_ne h2]) h3)
 case b1 => exact z (six_dec (by unfold sixL; rw [side_ne h1]) (by unfold sixL; rw [side_eq h2]; rfl) h3)
 case c1 => exact z (six_dec (by unfold sixL; rw [side_eq h1]; rfl) (by unfold sixL; rw [side_ne h2]) h3)
 case d1 => exact z (six_dec (by unfold sixL; rw [side_eq h1]; rfl) (by unfold sixL; rw [side_eq h2]; rfl) h3)
 case a2 =>
  have e := sixL_of (side_ne h1) (side_ne h2)
  refine ⟨⟨()⟩, six_dec' (by rw [e]) (by rw [e]) h3, ?_⟩
  and_intros <;> first | with_reducible rfl | trivial | (rw [e])
 case b2 =>
  have e := sixL_of (side_ne h1) (side_eq h2)
  refine ⟨⟨()⟩, six_dec' (by rw [e]) (by rw [e]; rfl) h3, ?_⟩
  and_intros <;> first | with_reducible rfl | trivial | (rw [e]; done) | (rw [e]; rfl)
 case c2 =>
  have e := sixL_of (side_eq h1) (side_ne h2)
  refine ⟨⟨()⟩, six_dec' (by rw [e]; rfl) (by rw [e]) h3, ?_⟩
  and_intros <;> first | with_reducible rfl | trivial | (rw [e]; done) | (rw [e]; rfl)
 case d2 =>
  have e := sixL_of (side_eq h1) (side_eq h2)
  refine ⟨⟨()⟩, six_dec' (by rw [e]; rfl) (by rw [e]; rfl) h3, ?_⟩
  and_intros <;> first | with_reducible rfl | trivial | (rw [e]; done) | (rw [e]; rfl)
 all_goals
  clear h1 h2
  rintro - ⟨hT, hF⟩
  have hT : (sixL s).l.length + (sixL s).r.length ≤ 8 := hT
  refine ⟨rfl, rfl, by omega, by omega, ⟨⟨0⟩, ⟨Nat.zero_le _, rfl⟩, rfl, rfl, rfl, rfl, rfl, rfl, rfl, six_fz s, rfl, ?_, ?_, trivial⟩, ?_⟩
  ·and_intros <;> first | rfl | trivial
  ·and_intros <;> first | rfl | trivial
  rintro ⟨i⟩ ⟨hi, hok⟩
  have hi : i ≤ (sixL s).l.length + (sixL s).r.length := hi
  have hok : sixOk (sixL s) i = true := hok
  have hj : (IXAd.mk i).i = i := rfl
  have hsz := sixQ_size s i
  refine ⟨fun h1 => ?_, fun h1 => ?_⟩
  ·have hlt : i < (sixL s).l.length + (sixL s).r.length := by
    have : (i : Int) < (((sixL s).l.length + (sixL s).r.length : Nat) : Int) := of_decide_eq_true h1
    omega
   have stop : (pu16 (sixQ (sixL s) i)).1 ≠ 0 → six s = (zeroA, false) := fun h => if_neg fun e => h (sixOk_le _ _ e.2 i hlt)
   refine ⟨by omega, by dsimp only; omega, by show (sixQ (sixL s) i).size ≤ _; omega, rfl, fun h2 => ?_, fun h2 => ⟨by show (sixQ (sixL s) i).size ≤ _; omega, rfl, .inl rfl, fun _ => ?_, trivial⟩, fun h2 => ⟨by show (sixQ (sixL s) i).size ≤ _; omega, rfl, .inr rfl, fun _ => ?_, trivial⟩, trivial⟩
   ·have ok : sixOk (sixL s) (i + 1) = true := by
     show (sixOk (sixL s) i && decide ((pu16 (sixQ (sixL s) i)).1 = 0)) = true
     have h2' : (pu16 (sixQ (sixL s) i)).1 = 0 := h2
     rw [hok, h2']
     rfl
    by_cases hl : i < (sixL s).l.length
    ·have hp : sixP (sixL s) i = i := if_pos hl
     have hp' : (i : Int) = (sixP (sixL s) i : Int) := by rw [hp]
     refine ⟨fun h3 => absurd (of_decide_eq_true h3) (by omega), fun h3 => ⟨by unfold in64; omega, by unfold in64; omega, by unfold in64; omega, by omega, by omega, ?_, by omega, by omega, ?_, by unfold in64; omega, ⟨i + 1⟩, ⟨hlt, ok⟩, by show (sixL s).l.length + (sixL s).r.length - (i + 1) < (sixL s).l.length + (sixL s).r.length - i; omega, rfl, rfl, rfl, rfl, rfl, rfl, rfl, rfl, rfl, ?_, ?_, trivial⟩⟩
     ·show _ < 16
      omega
     ·show _ < 16
      omega
     ·and_intros <;> first | rfl | trivial
     ·refine ⟨⟨rfl, rfl⟩, sixA_at _ i 0 _ hp', sixA_at _ i 1 _ hp', sixA_at _ i 2 _ hp', sixA_at _ i 3 _ hp', sixA_at _ i 4 _ hp', sixA_at _ i 5 _ hp', sixA_at _ i 6 _ hp', sixA_at _ i 7 _ hp', sixA_at _ i 8 _ hp', sixA_at _ i 9 _ hp', sixA_at _ i 10 _ hp', sixA_at _ i 11 _ hp', sixA_at _ i 12 _ hp', sixA_at _ i 13 _ hp', sixA_at _ i 14 _ hp', sixA_at _ i 15 _ hp', trivial⟩
    ·have hp : sixP (sixL s) i = i + (8 - (sixL s).l.length - (sixL s).r.length) := if_neg hl
     have hp' : (i : Int) + (8 - ((sixL s).l.length : Int) - ((sixL s).r.length : Int)) = (sixP (sixL s) i : Int) := by rw [hp]; omega
     refine ⟨fun h3 => ⟨by unfold in64; omega, by unfold in64; omega, by unfold in64; omega, by unfold in64; omega, by unfold in64; omega, by unfold in64; omega, by omega, by omega, ?_, by omega, by omega, ?_, by unfold in64; omega, ⟨i + 1⟩, ⟨hlt, ok⟩, by show (sixL s).l.length + (sixL s).r.length - (i + 1) < (sixL s).l.length + (sixL s).r.length - i; omega, rfl, rfl, rfl, rfl, rfl, rfl, rfl, rfl, rfl, ?_, ?_, trivial⟩, fun h3 => absurd (of_decide_eq_false h3) (by omega)⟩
     ·show _ < 16
      omega
     ·show _ < 16
      omega
     ·and_intros <;> first | rfl | trivial
     ·refine ⟨⟨rfl, rfl⟩, sixA_at _ i 0 _ hp', sixA_at _ i 1 _ hp', sixA_at _ i 2 _ hp', sixA_at _ i 3 _ hp', sixA_at _ i 4 _ hp', sixA_at _ i 5 _ hp', sixA_at _ i 6 _ hp', sixA_at _ i 7 _ hp', sixA_at _ i 8 _ hp', sixA_at _ i 9 _ hp', sixA_at _ i 10 _ hp', sixA_at _ i 11 _ hp', sixA_at _ i 12 _ hp', sixA_at _ i 13 _ hp', sixA_at _ i 14 _ hp', sixA_at _ i 15 _ hp', trivial⟩
   ·have h2' : (pu16 (sixQ (sixL s) i)).1 = 1 := h2
    exact z (stop (by omega))
   ·have h2' : (pu16 (sixQ (sixL s) i)).1 = 2 := h2
    exact z (stop (by omega))
  ·have hge : i = (sixL s).l.length + (sixL s).r.length := by
    have : ¬ (i : Int) < (((sixL s).l.length + (sixL s).r.length : Nat) : Int) := of_decide_eq_false h1
    omega
   have e : six s = (sixA (sixL s) i, true) := by
    rw [hge]
    exact if_pos ⟨⟨hT, hF⟩, by rw [← hge]; exact hok⟩
   rw [e]
   exact ⟨⟨rfl, rfl, rfl, rfl, rfl, rfl, rfl, rfl, rfl, rfl, rfl, rfl, rfl, rfl, rfl, rfl, trivial⟩, rfl, trivial⟩
theorem si_ok : CTok Tryz.prog 34 (C1 dStr (fun s => [s.size ≤ 1000000]) fun s => .tup [adr (six s).1, XB (six s).2]) := C1_ok cxgAd_ok Tryz.func34 rfl (by decide) dStr_eq.ok (by kernel_rfl) (fun _ => rfl) fun s hc => exv (siV_eq s) (si_v s (hc _ (by simp)))
end Go.Proofs.YtkjcoehblekpdaaGreatDoorAv
namespace Go.Proofs.YtkjcoehblekpdaaGreatDoorAv
open Go Go.RowKit
def bytesO : List XV → Option (List Int)
 | [] => some []
 | x :: l => match byteO x with
  | some b => match bytesO l with
   | some r => some (b :: r)
   | none => none
  | none => none
theorem bytesO_eq : ∀ (cs : List XV) (l : List Int), bytesO cs = some l → cs = l.map X8
 | [], l, h => by obtain rfl := (Option.some.inj h).symm; rfl
 | x :: cs, l, h => by
  unfold bytesO at h
  split at h
  ·rename_i b hb
   split at h
   ·rename_i r hr
    obtain rfl := Option.some.inj h
    rw [byteO_eq hb, bytesO_eq cs r hr]
    rfl
   ·cases h
  ·cases h
def dAL : Dc (Nat → Int) := ⟨fun x => match x with
 | .agg cs => match Nat.beq (xlen cs) 16 with
  | true => match bytesO cs with
   | some l => some ([], fun i => l.getD i 0)
   | none => none
  | false => none
 | _ => none, adr⟩
theorem dAL_eq : DcEq dAL := fun x cs a h _ => by
 simp only [dAL] at h
 split at h
 ·rename_i l
  split at h
  ·rename_i hl
   split at h
   ·rename_i bs hbs
    simp only [Option.some.injEq, Prod.mk.injEq] at h
    obtain ⟨-, rfl⟩ := h
    simp only [beqN, decide_eq_true_eq] at hl
    rw [xlen_eq] at hl
    obtain rfl := bytesO_eq l bs hbs
    rw [List.length_map] at hl
    have e : XV.agg (bs.map X8) = adr fun i => bs.getD i 0 := by
     rcases bs with _ | ⟨a0, _ | ⟨a1, _ | ⟨a2, _ | ⟨a3, _ | ⟨a4, _ | ⟨a5, _ | ⟨a6, _ | ⟨a7, _ | ⟨a8, _ | ⟨a9, _ | ⟨a10, _ | ⟨a11, _ | ⟨a12, _ | ⟨a13, _ | ⟨a14, _ | ⟨a15, _ | ⟨a16, l⟩⟩⟩⟩⟩⟩⟩⟩⟩⟩⟩⟩⟩⟩⟩⟩⟩
     case cons.cons.cons.cons.cons.cons.cons.cons.cons.cons.cons.cons.cons.cons.cons.cons.nil => rfl
     all_goals (exfalso; simp at hl; try omega)
    refine ⟨?_, rfl, ?_⟩
    ·show (XV.agg (bs.map X8)).pd = true
     rw [e]
     rfl
    ·show toAV (XV.agg (bs.map X8)) = toAV (adr fun i => bs.getD i 0)
     rw [e]
   ·cases h
  ·cases h
 ·cases h
def gp (a : Nat → Int) (j : Nat) : Int := a (2 * j) * 256 + a (2 * j + 1)
def zrun (a : Nat → Int) : Nat → Nat → Nat
 | 0, _ => 0
 | f + 1, i => if i < 8 ∧ gp a i = 0 then zrun a f (i + 1) + 1 else 0
def best (a : Nat → Int) : Nat → Int × Int
 | 0 => (-1, 1)
 | i + 1 => if (best a i).2 < (zrun a 9 i : Int) then ((i : Int), (zrun a 9 i : Int)) else best a i
def prT (a : Nat → Int) (b r : Int) : Nat → ByteArray
 | 0 => ⟨#[]⟩
 | k + 1 => if b ≤ (k : Int) ∧ (k : Int) < b + r then (if (k : Int) = b then prT a b r k ++ ⟨#[58, 58]⟩ else prT a b r k) else (if prT a b r k ≠ ⟨#[]⟩ ∧ hasSufB (prT a b r k) ⟨#[58]⟩ = false then prT a b r k ++ ⟨#[58]⟩ else prT a b r k) ++ hexB (gp a k).toNat
def prF (a : Nat → Int) (j : Nat) : ByteArray := itoaB (a (12 + j))
def prn (a : Nat → Int) : ByteArray := if is4 a = true then joinB ((List.range 4).map (prF a)) ⟨#[46]⟩ else prT a (best a 8).1 (best a 8).2 8
def is4L : CT := C1 dAL (fun _ => []) fun g => XB (is4 g)
theorem is4L_ok : CTok Tryz.prog 19 is4L := C1_ok cx0_ok Tryz.func19 rfl (by decide) dAL_eq.ok (by kernel_rfl) (fun _ => rfl) fun g _ => exv (is4V_eq g) (is4_v g)
def cxp : Cx := { cx0 with C := [(19, is4L), (25, itoaC), (39, joinC), (40, hasSufC), (27, fmtC)] }
theorem cxp_ok : cxp.ok Tryz.prog := ((((cx0_ok.addC fm_ok).addC hasSuf_ok).addC join_ok).addC itoa_ok).addC is4L_ok
structure KX where
 k : Nat
def grp (a : Nat → Int) : XRow := .one 69 true [XI (gp a 0), XI (gp a 1), XI (gp a 2), XI (gp a 3), XI (gp a 4), XI (gp a 5), XI (gp a 6), XI (gp a 7)]
def prR (a : Nat → Int) : List (Nat × XRow) := [(0, .one 27 true (adr a).cells), (1, grp a)]
def prC (a : Nat → Int) : Inv where
 σ := UX
 S := fun x => ⟨[(1, .ptr 0 0 0 0), (2, XT ⟨#[]⟩), (6, .ptr 1 0 0 0)], prR a, 2, false, []⟩
 inv := fun x => True
 μ := fun x => 0
def prB (a : Nat → Int) : Inv where
 σ := UX
 S := fun x => ⟨[(1, .ptr 0 0 0 0), (2, XT ⟨#[]⟩), (3, .sl 1 1 0 4)], [(0, .one 27 true (adr a).cells), (1, .vec 9 true 4 1 fun j => [XT (prF a j)])], 2, false, []⟩
 inv := fun x => is4 a = true
 μ := fun x => 0
def prI (a : Nat → Int) : Inv where
 σ := IXAd
 S := fun x => ⟨[(1, .ptr 0 0 0 0), (2, XT ⟨#[]⟩), (6, .ptr 1 0 0 0), (8, XI (best a x.i).1), (9, XI (best a x.i).2), (50, XI x.i)], prR a, 2, false, []⟩
 inv := fun x => x.i ≤ 8
 μ := fun x => 8 - x.i
def prJ (a : Nat → Int) (x : IXAd) : Inv where
 σ := KX
 S := fun y => ⟨[(1, .ptr 0 0 0 0), (2, XT ⟨#[]⟩), (6, .ptr 1 0 0 0), (8, XI (best a x.i).1), (9, XI (best a x.i).2), (50, XI x.i), (10, XI x.i), (11, XI y.k)], prR a, 2, false, []⟩
 inv := fun y => x.i + y.k ≤ 8 ∧ ∀ j, j < y.k → gp a (x.i + j) = 0
 μ := fun y => 8 - y.k
def prK (a : Nat → Int) : Inv where
 σ := IXAd
 S := fun x => ⟨[(1, .ptr 0 0 0 0), (2, XT ⟨#[]⟩), (6, .ptr 1 0 0 0), (8, XI (best a 8).1), (9, XI (best a 8).2), (12, XT (prT a (best a 8).1 (best a 8).2 x.i)), (13, XI x.i)], prR a, 2, false, []⟩
 inv := fun x => x.i ≤ 8 ∧ ((x.i : Int) ≤ (best a 8).1 ∨ (best a 8).1 + (best a 8).2 ≤ (x.i : Int))
 μ := fun x => 8 - x.i
def prE (a : Nat → Int) : Env := { loops := [(4, prI a), (8, prK a)], loopsP := [(6, ⟨IXAd, prJ a⟩)], cuts := [(8, prB a), (15, prC a)], rolls := [(0, 5), (2, 9)], own := [(3, [(3, 9, 1)])], frz := [(8, [3])] }
def prV_a (a : Nat → Int) :=
  (((27 : TypeId) = (27 : TypeId) ∧ true = true) ∧ a (0 : Nat) = a (0 : Nat) ∧ a (1 : Nat) = a (1 : Nat) ∧ a (2 : Nat) = a (2 : Nat) ∧ a (3 : Nat) = a (3 : Nat) ∧ a (4 : Nat) = a (4 : Nat) ∧ a (5 : Nat) = a (5 : Nat) ∧ a (6 : Nat) = a (6 : Nat) ∧ a (7 : Nat) = a (7 : Nat) ∧ a (8 : Nat) = a (8 : Nat) ∧ a (9 : Nat) = a (9 : Nat) ∧ a (10 : Nat) = a (10 : Nat) ∧ a (11 : Nat) = a (11 : Nat) ∧ a (12 : Nat) = a (12 : Nat) ∧ a (13 : Nat) = a (13 : Nat) ∧ a (14 : Nat) = a (14 : Nat) ∧ a (15 : Nat) = a (15 : Nat) ∧ True)
def prV_b (a : Nat → Int) :=
  (((69 : TypeId) = (69 : TypeId) ∧ true = true) ∧ gp a (0 : Nat) = gp a (0 : Nat) ∧ gp a (1 : Nat) = gp a (1 : Nat) ∧ gp a (2 : Nat) = gp a (2 : Nat) ∧ gp a (3 : Nat) = gp a (3 : Nat) ∧ gp a (4 : Nat) = gp a (4 : Nat) ∧ gp a (5 : Nat) = gp a (5 : Nat) ∧ gp a (6 : Nat) = gp a (6 : Nat) ∧ gp a (7 : Nat) = gp a (7 : Nat) ∧ True)
def prV_c (a : Nat → Int) :=
  (IntKind.i64.wrap ([a (0 : Nat), a (1 : Nat), a (2 : Nat), a (3 : Nat), a (4 : Nat), a (5 : Nat), a (6 : Nat), a (7 : Nat), a (8 : Nat), a (9 : Nat), a (10 : Nat), a (11 : Nat), a (12 : Nat), a (13 : Nat), a (14 : Nat), a (15 : Nat)].getD ((0 : Nat)) (0 : Int) * (2 : Int) ^ (8 : Nat)))
def prV_d (a : Nat → Int) :=
  ([a (0 : Nat), a (1 : Nat), a (2 : Nat), a (3 : Nat), a (4 : Nat), a (5 : Nat), a (6 : Nat), a (7 : Nat), a (8 : Nat), a (9 : Nat), a (10 : Nat), a (11 : Nat), a (12 : Nat), a (13 : Nat), a (14 : Nat), a (15 : Nat)].getD ((1 : Nat)) (0 : Int))
def prV_e (a : Nat → Int) :=
  (IntKind.i64.wrap ([a (0 : Nat), a (1 : Nat), a (2 : Nat), a (3 : Nat), a (4 : Nat), a (5 : Nat), a (6 : Nat), a (7 : Nat), a (8 : Nat), a (9 : Nat), a (10 : Nat), a (11 : Nat), a (12 : Nat), a (13 : Nat), a (14 : Nat), a (15 : Nat)].getD ((2 : Nat)) (0 : Int) * (2 : Int) ^ (8 : Nat)))
def prV_f (a : Nat → Int) :=
  ([a (0 : Nat), a (1 : Nat), a (2 : Nat), a (3 : Nat), a (4 : Nat), a (5 : Nat), a (6 : Nat), a (7 : Nat), a (8 : Nat), a (9 : Nat), a (10 : Nat), a (11 : Nat), a (12 : Nat), a (13 : Nat), a (14 : Nat), a (15 : Nat)].getD ((3 : Nat)) (0 : Int))
def prV_g (a : Nat → Int) :=
  ([a (0 : Nat), a (1 : Nat), a (2 : Nat), a (3 : Nat), a (4 : Nat), a (5 : Nat), a (6 : Nat), a (7 : Nat), a (8 : Nat), a (9 : Nat), a (10 : Nat), a (11 : Nat), a (12 : Nat), a (13 : Nat), a (14 : Nat), a (15 : Nat)].getD ((5 : Nat)) (0 : Int))
def prV_h (a : Nat → Int) :=
  (IntKind.i64.wrap ([a (0 : Nat), a (1 : Nat), a (2 : Nat), a (3 : Nat), a (4 : Nat), a (5 : Nat), a (6 : Nat), a (7 : Nat), a (8 : Nat), a (9 : Nat), a (10 : Nat), a (11 : Nat), a (12 : Nat), a (13 : Nat), a (14 : Nat), a (15 : Nat)].getD ((4 : Nat)) (0 : Int) * (2 : Int) ^ (8 : Nat)))
def prV_i (a : Nat → Int) :=
  ([a (0 : Nat), a (1 : Nat), a (2 : Nat), a (3 : Nat), a (4 : Nat), a (5 : Nat), a (6 : Nat), a (7 : Nat), a (8 : Nat), a (9 : Nat), a (10 : Nat), a (11 : Nat), a (12 : Nat), a (13 : Nat), a (14 : Nat), a (15 : Nat)].getD ((7 : Nat)) (0 : Int))
def prV_j (a : Nat → Int) :=
  (IntKind.i64.wrap ([a (0 : Nat), a (1 : Nat), a (2 : Nat), a (3 : Nat), a (4 : Nat), a (5 : Nat), a (6 : Nat), a (7 : Nat), a (8 : Nat), a (9 : Nat), a (10 : Nat), a (11 : Nat), a (12 : Nat), a (13 : Nat), a (14 : Nat), a (15 : Nat)].getD ((6 : Nat)) (0 : Int) * (2 : Int) ^ (8 : Nat)))
def prV_k (a : Nat → Int) :=
  ([a (0 : Nat), a (1 : Nat), a (2 : Nat), a (3 : Nat), a (4 : Nat), a (5 : Nat), a (6 : Nat), a (7 : Nat), a (8 : Nat), a (9 : Nat), a (10 : Nat), a (11 : Nat), a (12 : Nat), a (13 : Nat), a (14 : Nat), a (15 : Nat)].getD ((13 : Nat)) (0 : Int))
def prV_l (a : Nat → Int) :=
  ([a (0 : Nat), a (1 : Nat), a (2 : Nat), a (3 : Nat), a (4 : Nat), a (5 : Nat), a (6 : Nat), a (7 : Nat), a (8 : Nat), a (9 : Nat), a (10 : Nat), a (11 : Nat), a (12 : Nat), a (13 : Nat), a (14 : Nat), a (15 : Nat)].getD ((9 : Nat)) (0 : Int))
def prV_m (a : Nat → Int) :=
  (IntKind.i64.wrap ([a (0 : Nat), a (1 : Nat), a (2 : Nat), a (3 : Nat), a (4 : Nat), a (5 : Nat), a (6 : Nat), a (7 : Nat), a (8 : Nat), a (9 : Nat), a (10 : Nat), a (11 : Nat), a (12 : Nat), a (13 : Nat), a (14 : Nat), a (15 : Nat)].getD ((8 : Nat)) (0 : Int) * (2 : Int) ^ (8 : Nat)))
def prV_n (a : Nat → Int) :=
  ([a (0 : Nat), a (1 : Nat), a (2 : Nat), a (3 : Nat), a (4 : Nat), a (5 : Nat), a (6 : Nat), a (7 : Nat), a (8 : Nat), a (9 : Nat), a (10 : Nat), a (11 : Nat), a (12 : Nat), a (13 : Nat), a (14 : Nat), a (15 : Nat)].getD ((15 : Nat)) (0 : Int))
def prV_o (a : Nat → Int) :=
  ([a (0 : Nat), a (1 : Nat), a (2 : Nat), a (3 : Nat), a (4 : Nat), a (5 : Nat), a (6 : Nat), a (7 : Nat), a (8 : Nat), a (9 : Nat), a (10 : Nat), a (11 : Nat), a (12 : Nat), a (13 : Nat), a (14 : Nat), a (15 : Nat)].getD ((11 : Nat)) (0 : Int))
def prV_p :=
  ((0 : Int) + (1 : Int) + (1 : Int) + (1 : Int) + (1 : Int) + (1 : Int) + (1 : Int) + (1 : Int))
def prV_q (a : Nat → Int) :=
  (IntKind.i64.wrap ([a (0 : Nat), a (1 : Nat), a (2 : Nat), a (3 : Nat), a (4 : Nat), a (5 : Nat), a (6 : Nat), a (7 : Nat), a (8 : Nat), a (9 : Nat), a (10 : Nat), a (11 : Nat), a (12 : Nat), a (13 : Nat), a (14 : Nat), a (15 : Nat)].getD ((10 : Nat)) (0 : Int) * (2 : Int) ^ (8 : Nat)))
def prV_r (a : Nat → Int) :=
  (((27 : Nat) = (27 : TypeId) ∧ true = true) ∧ a (0 : Nat) = a (0 : Nat) ∧ a (1 : Nat) = a (1 : Nat) ∧ a (2 : Nat) = a (2 : Nat) ∧ a (3 : Nat) = a (3 : Nat) ∧ a (4 : Nat) = a (4 : Nat) ∧ a (5 : Nat) = a (5 : Nat) ∧ a (6 : Nat) = a (6 : Nat) ∧ a (7 : Nat) = a (7 : Nat) ∧ a (8 : Nat) = a (8 : Nat) ∧ a (9 : Nat) = a (9 : Nat) ∧ a (10 : Nat) = a (10 : Nat) ∧ a (11 : Nat) = a (11 : Nat) ∧ a (12 : Nat) = a (12 : Nat) ∧ a (13 : Nat) = a (13 : Nat) ∧ a (14 : Nat) = a (14 : Nat) ∧ a (15 : Nat) = a (15 : Nat) ∧ True)
def prV_s :=
  ((0 : Int) + (1 : Int) + (1 : Int) + (1 : Int) + (1 : Int) + (1 : Int) + (1 : Int))
def prV_t (a : Nat → Int) :=
  ([a (0 : Nat), a (1 : Nat), a (2 : Nat), a (3 : Nat), a (4 : Nat), a (5 : Nat), a (6 : Nat), a (7 : Nat), a (8 : Nat), a (9 : Nat), a (10 : Nat), a (11 : Nat), a (12 : Nat), a (13 : Nat), a (14 : Nat), a (15 : Nat)].getD ((12 : Nat)) (0 : Int))
def prV_u (a : Nat → Int) :=
  ([a (0 : Nat), a (1 : Nat), a (2 : Nat), a (3 : Nat), a (4 : Nat), a (5 : Nat), a (6 : Nat), a (7 : Nat), a (8 : Nat), a (9 : Nat), a (10 : Nat), a (11 : Nat), a (12 : Nat), a (13 : Nat), a (14 : Nat), a (15 : Nat)].getD ((14 : Nat)) (0 : Int))
def prV_v (a : Nat → Int) (x : IXAd) :=
  ([gp a (0 : Nat), gp a (1 : Nat), gp a (2 : Nat), gp a (3 : Nat), gp a (4 : Nat), gp a (5 : Nat), gp a (6 : Nat), gp a (7 : Nat)].getD (↑x.i : Int).toNat (0 : Int))
def prV_w :=
  ((0 : Int) + (1 : Int) + (1 : Int) + (1 : Int) + (1 : Int) + (1 : Int))
def prV_x :=
  ((0 : Int) + (1 : Int) + (1 : Int) + (1 : Int) + (1 : Int))
def prV_y :=
  ((0 : Int) + (1 : Int) + (1 : Int) + (1 : Int))
def prV (a : Nat → Int) : Prop :=
  ((is4 fun (i : Nat) => [a (0 : Nat), a (1 : Nat), a (2 : Nat), a (3 : Nat), a (4 : Nat), a (5 : Nat), a (6 : Nat), a (7 : Nat), a (8 : Nat), a (9 : Nat), a (10 : Nat), a (11 : Nat), a (12 : Nat), a (13 : Nat), a (14 : Nat), a (15 : Nat)].getD i (0 : Int)) = true → ((0 : Int) ≤ (12 : Int) ∧ (12 : Int) ≤ (↑(16 : Nat) : Int) ∧ (↑(16 : Nat) : Int) ≤ (↑(16 : Nat) : Int) ∧ (0 : Int) ≤ (0 : Int) ∧ (0 : Int) < (↑((4 : Nat)) : Int) ∧ (12 : Nat) < [a (0 : Nat), a (1 : Nat), a (2 : Nat), a (3 : Nat), a (4 : Nat), a (5 : Nat), a (6 : Nat), a (7 : Nat), a (8 : Nat), a (9 : Nat), a (10 : Nat), a (11 : Nat), a (12 : Nat), a (13 : Nat), a (14 : Nat), a (15 : Nat)].length ∧ in64 (prV_t a) ∧ (0 : Int) ≤ [a (0 : Nat), a (1 : Nat), a (2 : Nat), a (3 : Nat), a (4 : Nat), a (5 : Nat), a (6 : Nat), a (7 : Nat), a (8 : Nat), a (9 : Nat), a (10 : Nat), a (11 : Nat), a (12 : Nat), a (13 : Nat), a (14 : Nat), a (15 : Nat)].getD ((12 : Nat)) (0 : Int) ∧ [a (0 : Nat), a (1 : Nat), a (2 : Nat), a (3 : Nat), a (4 : Nat), a (5 : Nat), a (6 : Nat), a (7 : Nat), a (8 : Nat), a (9 : Nat), a (10 : Nat), a (11 : Nat), a (12 : Nat), a (13 : Nat), a (14 : Nat), a (15 : Nat)].getD ((12 : Nat)) (0 : Int) ≤ (1000000 : Int) ∧ (0 : Nat) = (0 : Nat) ∧ (16 : Nat) ≤ (140737488355328 : Nat) ∧ (1 : Nat) ≤ (140737488355328 : Nat) ∧ in64 ((0 : Int) + (1 : Int)) ∧ (0 : Int) ≤ (0 : Int) + (1 : Int) ∧ (0 : Int) + (1 : Int) < (↑((4 : Nat)) : Int) ∧ (13 : Nat) < [a (0 : Nat), a (1 : Nat), a (2 : Nat), a (3 : Nat), a (4 : Nat), a (5 : Nat), a (6 : Nat), a (7 : Nat), a (8 : Nat), a (9 : Nat), a (10 : Nat), a (11 : Nat), a (12 : Nat), a (13 : Nat), a (14 : Nat), a (15 : Nat)].length ∧ in64 (prV_k a) ∧ (0 : Int) ≤ [a (0 : Nat), a (1 : Nat), a (2 : Nat), a (3 : Nat), a (4 : Nat), a (5 : Nat), a (6 : Nat), a (7 : Nat), a (8 : Nat), a (9 : Nat), a (10 : Nat), a (11 : Nat), a (12 : Nat), a (13 : Nat), a (14 : Nat), a (15 : Nat)].getD ((13 : Nat)) (0 : Int) ∧ [a (0 : Nat), a (1 : Nat), a (2 : Nat), a (3 : Nat), a (4 : Nat), a (5 : Nat), a (6 : Nat), a (7 : Nat), a (8 : Nat), a (9 : Nat), a (10 : Nat), a (11 : Nat), a (12 : Nat), a (13 : Nat), a (14 : Nat), a (15 : Nat)].getD ((13 : Nat)) (0 : Int) ≤ (1000000 : Int) ∧ (1 : Nat) = (1 : Nat) ∧ (32 : Nat) ≤ (140737488355328 : Nat) ∧ (2 : Nat) ≤ (140737488355328 : Nat) ∧ in64 ((0 : Int) + (1 : Int) + (1 : Int)) ∧ (0 : Int) ≤ (0 : Int) + (1 : Int) + (1 : Int) ∧ (0 : Int) + (1 : Int) + (1 : Int) < (↑((4 : Nat)) : Int) ∧ (14 : Nat) < [a (0 : Nat), a (1 : Nat), a (2 : Nat), a (3 : Nat), a (4 : Nat), a (5 : Nat), a (6 : Nat), a (7 : Nat), a (8 : Nat), a (9 : Nat), a (10 : Nat), a (11 : Nat), a (12 : Nat), a (13 : Nat), a (14 : Nat), a (15 : Nat)].length ∧ in64 (prV_u a) ∧ (0 : Int) ≤ [a (0 : Nat), a (1 : Nat), a (2 : Nat), a (3 : Nat), a (4 : Nat), a (5 : Nat), a (6 : Nat), a (7 : Nat), a (8 : Nat), a (9 : Nat), a (10 : Nat), a (11 : Nat), a (12 : Nat), a (13 : Nat), a (14 : Nat), a (15 : Nat)].getD ((14 : Nat)) (0 : Int) ∧ [a (0 : Nat), a (1 : Nat), a (2 : Nat), a (3 : Nat), a (4 : Nat), a (5 : Nat), a (6 : Nat), a (7 : Nat), a (8 : Nat), a (9 : Nat), a (10 : Nat), a (11 : Nat), a (12 : Nat), a (13 : Nat), a (14 : Nat), a (15 : Nat)].getD ((14 : Nat)) (0 : Int) ≤ (1000000 : Int) ∧ (2 : Nat) = (2 : Nat) ∧ (48 : Nat) ≤ (140737488355328 : Nat) ∧ (3 : Nat) ≤ (140737488355328 : Nat) ∧ in64 prV_y ∧ (0 : Int) ≤ (0 : Int) + (1 : Int) + (1 : Int) + (1 : Int) ∧ (0 : Int) + (1 : Int) + (1 : Int) + (1 : Int) < (↑((4 : Nat)) : Int) ∧ (15 : Nat) < [a (0 : Nat), a (1 : Nat), a (2 : Nat), a (3 : Nat), a (4 : Nat), a (5 : Nat), a (6 : Nat), a (7 : Nat), a (8 : Nat), a (9 : Nat), a (10 : Nat), a (11 : Nat), a (12 : Nat), a (13 : Nat), a (14 : Nat), a (15 : Nat)].length ∧ in64 (prV_n a) ∧ (0 : Int) ≤ [a (0 : Nat), a (1 : Nat), a (2 : Nat), a (3 : Nat), a (4 : Nat), a (5 : Nat), a (6 : Nat), a (7 : Nat), a (8 : Nat), a (9 : Nat), a (10 : Nat), a (11 : Nat), a (12 : Nat), a (13 : Nat), a (14 : Nat), a (15 : Nat)].getD ((15 : Nat)) (0 : Int) ∧ [a (0 : Nat), a (1 : Nat), a (2 : Nat), a (3 : Nat), a (4 : Nat), a (5 : Nat), a (6 : Nat), a (7 : Nat), a (8 : Nat), a (9 : Nat), a (10 : Nat), a (11 : Nat), a (12 : Nat), a (13 : Nat), a (14 : Nat), a (15 : Nat)].getD ((15 : Nat)) (0 : Int) ≤ (1000000 : Int) ∧ (3 : Nat) = (3 : Nat) ∧ (64 : Nat) ≤ (140737488355328 : Nat) ∧ (4 : Nat) ≤ (140737488355328 : Nat) ∧ in64 prV_x ∧ ∃ (x : (prB a).σ), is4 a = true ∧ true = true ∧ XV.ptr (0 : Nat) (0 : Nat) (0 : Nat) (0 : Nat) = XV.ptr (0 : Nat) (0 : Nat) (0 : Nat) (0 : Nat) ∧ { data := #[] : ByteArray } = { data := #[] : ByteArray } ∧ XV.sl ((0 : Nat) + (1 : Nat)) (1 : Nat) (0 : Nat) ((4 : Nat)) = XV.sl (1 : Nat) (1 : Nat) (0 : Nat) (4 : Nat) ∧ (prV_r a) ∧ (((9 : TypeId) = (9 : TypeId) ∧ true = true ∧ (1 : Nat) = (1 : Nat)) ∧ (4 : Nat) = (4 : Nat) ∧ ∀ (j : Nat), j < (4 : Nat) → [XT (bif j.blt ((3 : Nat)) then bif j.blt ((2 : Nat)) then bif j.blt ((1 : Nat)) then itoaB (prV_t a) else itoaB (prV_k a) else itoaB (prV_u a) else itoaB (prV_n a))] = [XT (prF a j)]) ∧ True) ∧ ∀ (x : UX), is4 a = true → (4 : Nat) = (4 : Nat) ∧ (∀ (i : Nat), i < (4 : Nat) → [XT (prF a i)] = [XT (prF a i)]) ∧ (4 : Nat) ≤ (1000 : Nat) ∧ (∀ (i : Nat), i < (4 : Nat) → (prF a i).size ≤ (1000000 : Nat)) ∧ (1 : Nat) ≤ (1000 : Nat) ∧ joinB [prF a ((0 : Nat)), prF a ((1 : Nat)), prF a ((2 : Nat)), prF a ((3 : Nat))] { data := #[(46 : UInt8)] : ByteArray } = prn a) ∧ ((is4 fun (i : Nat) => [a (0 : Nat), a (1 : Nat), a (2 : Nat), a (3 : Nat), a (4 : Nat), a (5 : Nat), a (6 : Nat), a (7 : Nat), a (8 : Nat), a (9 : Nat), a (10 : Nat), a (11 : Nat), a (12 : Nat), a (13 : Nat), a (14 : Nat), a (15 : Nat)].getD i (0 : Int)) = false → (in64 ((2 : Int) * (0 : Int)) ∧ (0 : Int) ≤ (2 : Int) * (0 : Int) ∧ (2 : Int) * (0 : Int) < (↑(16 : Nat) : Int) ∧ (0 : Nat) < [a (0 : Nat), a (1 : Nat), a (2 : Nat), a (3 : Nat), a (4 : Nat), a (5 : Nat), a (6 : Nat), a (7 : Nat), a (8 : Nat), a (9 : Nat), a (10 : Nat), a (11 : Nat), a (12 : Nat), a (13 : Nat), a (14 : Nat), a (15 : Nat)].length ∧ in64 ([a (0 : Nat), a (1 : Nat), a (2 : Nat), a (3 : Nat), a (4 : Nat), a (5 : Nat), a (6 : Nat), a (7 : Nat), a (8 : Nat), a (9 : Nat), a (10 : Nat), a (11 : Nat), a (12 : Nat), a (13 : Nat), a (14 : Nat), a (15 : Nat)].getD ((0 : Nat)) (0 : Int)) ∧ in64 ((2 : Int) * (0 : Int)) ∧ in64 ((2 : Int) * (0 : Int) + (1 : Int)) ∧ (0 : Int) ≤ (2 : Int) * (0 : Int) + (1 : Int) ∧ (2 : Int) * (0 : Int) + (1 : Int) < (↑(16 : Nat) : Int) ∧ (1 : Nat) < [a (0 : Nat), a (1 : Nat), a (2 : Nat), a (3 : Nat), a (4 : Nat), a (5 : Nat), a (6 : Nat), a (7 : Nat), a (8 : Nat), a (9 : Nat), a (10 : Nat), a (11 : Nat), a (12 : Nat), a (13 : Nat), a (14 : Nat), a (15 : Nat)].length ∧ in64 (prV_d a) ∧ (0 : Int) ≤ (0 : Int) ∧ (0 : Int) < (↑(8 : Nat) : Int) ∧ (0 : Nat) < (8 : Nat) ∧ in64 ((0 : Int) + (1 : Int)) ∧ in64 ((2 : Int) * ((0 : Int) + (1 : Int))) ∧ (0 : Int) ≤ (2 : Int) * ((0 : Int) + (1 : Int)) ∧ (2 : Int) * ((0 : Int) + (1 : Int)) < (↑(16 : Nat) : Int) ∧ (2 : Nat) < [a (0 : Nat), a (1 : Nat), a (2 : Nat), a (3 : Nat), a (4 : Nat), a (5 : Nat), a (6 : Nat), a (7 : Nat), a (8 : Nat), a (9 : Nat), a (10 : Nat), a (11 : Nat), a (12 : Nat), a (13 : Nat), a (14 : Nat), a (15 : Nat)].length ∧ in64 ([a (0 : Nat), a (1 : Nat), a (2 : Nat), a (3 : Nat), a (4 : Nat), a (5 : Nat), a (6 : Nat), a (7 : Nat), a (8 : Nat), a (9 : Nat), a (10 : Nat), a (11 : Nat), a (12 : Nat), a (13 : Nat), a (14 : Nat), a (15 : Nat)].getD ((2 : Nat)) (0 : Int)) ∧ in64 ((2 : Int) * ((0 : Int) + (1 : Int))) ∧ in64 ((2 : Int) * ((0 : Int) + (1 : Int)) + (1 : Int)) ∧ (0 : Int) ≤ (2 : Int) * ((0 : Int) + (1 : Int)) + (1 : Int) ∧ (2 : Int) * ((0 : Int) + (1 : Int)) + (1 : Int) < (↑(16 : Nat) : Int) ∧ (3 : Nat) < [a (0 : Nat), a (1 : Nat), a (2 : Nat), a (3 : Nat), a (4 : Nat), a (5 : Nat), a (6 : Nat), a (7 : Nat), a (8 : Nat), a (9 : Nat), a (10 : Nat), a (11 : Nat), a (12 : Nat), a (13 : Nat), a (14 : Nat), a (15 : Nat)].length ∧ in64 (prV_f a) ∧ (0 : Int) ≤ (0 : Int) + (1 : Int) ∧ (0 : Int) + (1 : Int) < (↑(8 : Nat) : Int) ∧ (1 : Nat) < [bits BinOp.or IntKind.i64 (prV_c a) (prV_d a), (0 : Int), (0 : Int), (0 : Int), (0 : Int), (0 : Int), (0 : Int), (0 : Int)].length ∧ in64 ((0 : Int) + (1 : Int) + (1 : Int)) ∧ in64 ((2 : Int) * ((0 : Int) + (1 : Int) + (1 : Int))) ∧ (0 : Int) ≤ (2 : Int) * ((0 : Int) + (1 : Int) + (1 : Int)) ∧ (2 : Int) * ((0 : Int) + (1 : Int) + (1 : Int)) < (↑(16 : Nat) : Int) ∧ (4 : Nat) < [a (0 : Nat), a (1 : Nat), a (2 : Nat), a (3 : Nat), a (4 : Nat), a (5 : Nat), a (6 : Nat), a (7 : Nat), a (8 : Nat), a (9 : Nat), a (10 : Nat), a (11 : Nat), a (12 : Nat), a (13 : Nat), a (14 : Nat), a (15 : Nat)].length ∧ in64 ([a (0 : Nat), a (1 : Nat), a (2 : Nat), a (3 : Nat), a (4 : Nat), a (5 : Nat), a (6 : Nat), a (7 : Nat), a (8 : Nat), a (9 : Nat), a (10 : Nat), a (11 : Nat), a (12 : Nat), a (13 : Nat), a (14 : Nat), a (15 : Nat)].getD ((4 : Nat)) (0 : Int)) ∧ in64 ((2 : Int) * ((0 : Int) + (1 : Int) + (1 : Int))) ∧ in64 ((2 : Int) * ((0 : Int) + (1 : Int) + (1 : Int)) + (1 : Int)) ∧ (0 : Int) ≤ (2 : Int) * ((0 : Int) + (1 : Int) + (1 : Int)) + (1 : Int) ∧ (2 : Int) * ((0 : Int) + (1 : Int) + (1 : Int)) + (1 : Int) < (↑(16 : Nat) : Int) ∧ (5 : Nat) < [a (0 : Nat), a (1 : Nat), a (2 : Nat), a (3 : Nat), a (4 : Nat), a (5 : Nat), a (6 : Nat), a (7 : Nat), a (8 : Nat), a (9 : Nat), a (10 : Nat), a (11 : Nat), a (12 : Nat), a (13 : Nat), a (14 : Nat), a (15 : Nat)].length ∧ in64 (prV_g a) ∧ (0 : Int) ≤ (0 : Int) + (1 : Int) + (1 : Int) ∧ (0 : Int) + (1 : Int) + (1 : Int) < (↑(8 : Nat) : Int) ∧ (2 : Nat) < [bits BinOp.or IntKind.i64 (prV_c a) (prV_d a), bits BinOp.or IntKind.i64 (prV_e a) (prV_f a), (0 : Int), (0 : Int), (0 : Int), (0 : Int), (0 : Int), (0 : Int)].length ∧ in64 prV_y ∧ in64 ((2 : Int) * prV_y) ∧ (0 : Int) ≤ (2 : Int) * prV_y ∧ (2 : Int) * prV_y < (↑(16 : Nat) : Int) ∧ (6 : Nat) < [a (0 : Nat), a (1 : Nat), a (2 : Nat), a (3 : Nat), a (4 : Nat), a (5 : Nat), a (6 : Nat), a (7 : Nat), a (8 : Nat), a (9 : Nat), a (10 : Nat), a (11 : Nat), a (12 : Nat), a (13 : Nat), a (14 : Nat), a (15 : Nat)].length ∧ in64 ([a (0 : Nat), a (1 : Nat), a (2 : Nat), a (3 : Nat), a (4 : Nat), a (5 : Nat), a (6 : Nat), a (7 : Nat), a (8 : Nat), a (9 : Nat), a (10 : Nat), a (11 : Nat), a (12 : Nat), a (13 : Nat), a (14 : Nat), a (15 : Nat)].getD ((6 : Nat)) (0 : Int)) ∧ in64 ((2 : Int) * prV_y) ∧ in64 ((2 : Int) * prV_y + (1 : Int)) ∧ (0 : Int) ≤ (2 : Int) * prV_y + (1 : Int) ∧ (2 : Int) * prV_y + (1 : Int) < (↑(16 : Nat) : Int) ∧ (7 : Nat) < [a (0 : Nat), a (1 : Nat), a (2 : Nat), a (3 : Nat), a (4 : Nat), a (5 : Nat), a (6 : Nat), a (7 : Nat), a (8 : Nat), a (9 : Nat), a (10 : Nat), a (11 : Nat), a (12 : Nat), a (13 : Nat), a (14 : Nat), a (15 : Nat)].length ∧ in64 (prV_i a) ∧ (0 : Int) ≤ (0 : Int) + (1 : Int) + (1 : Int) + (1 : Int) ∧ (0 : Int) + (1 : Int) + (1 : Int) + (1 : Int) < (↑(8 : Nat) : Int) ∧ (3 : Nat) < [bits BinOp.or IntKind.i64 (prV_c a) (prV_d a), bits BinOp.or IntKind.i64 (prV_e a) (prV_f a), bits BinOp.or IntKind.i64 (prV_h a) (prV_g a), (0 : Int), (0 : Int), (0 : Int), (0 : Int), (0 : Int)].length ∧ in64 prV_x ∧ in64 ((2 : Int) * prV_x) ∧ (0 : Int) ≤ (2 : Int) * prV_x ∧ (2 : Int) * prV_x < (↑(16 : Nat) : Int) ∧ (8 : Nat) < [a (0 : Nat), a (1 : Nat), a (2 : Nat), a (3 : Nat), a (4 : Nat), a (5 : Nat), a (6 : Nat), a (7 : Nat), a (8 : Nat), a (9 : Nat), a (10 : Nat), a (11 : Nat), a (12 : Nat), a (13 : Nat), a (14 : Nat), a (15 : Nat)].length ∧ in64 ([a (0 : Nat), a (1 : Nat), a (2 : Nat), a (3 : Nat), a (4 : Nat), a (5 : Nat), a (6 : Nat), a (7 : Nat), a (8 : Nat), a (9 : Nat), a (10 : Nat), a (11 : Nat), a (12 : Nat), a (13 : Nat), a (14 : Nat), a (15 : Nat)].getD ((8 : Nat)) (0 : Int)) ∧ in64 ((2 : Int) * prV_x) ∧ in64 ((2 : Int) * prV_x + (1 : Int)) ∧ (0 : Int) ≤ (2 : Int) * prV_x + (1 : Int) ∧ (2 : Int) * prV_x + (1 : Int) < (↑(16 : Nat) : Int) ∧ (9 : Nat) < [a (0 : Nat), a (1 : Nat), a (2 : Nat), a (3 : Nat), a (4 : Nat), a (5 : Nat), a (6 : Nat), a (7 : Nat), a (8 : Nat), a (9 : Nat), a (10 : Nat), a (11 : Nat), a (12 : Nat), a (13 : Nat), a (14 : Nat), a (15 : Nat)].length ∧ in64 (prV_l a) ∧ (0 : Int) ≤ (0 : Int) + (1 : Int) + (1 : Int) + (1 : Int) + (1 : Int) ∧ (0 : Int) + (1 : Int) + (1 : Int) + (1 : Int) + (1 : Int) < (↑(8 : Nat) : Int) ∧ (4 : Nat) < [bits BinOp.or IntKind.i64 (prV_c a) (prV_d a), bits BinOp.or IntKind.i64 (prV_e a) (prV_f a), bits BinOp.or IntKind.i64 (prV_h a) (prV_g a), bits BinOp.or IntKind.i64 (prV_j a) (prV_i a), (0 : Int), (0 : Int), (0 : Int), (0 : Int)].length ∧ in64 prV_w ∧ in64 ((2 : Int) * prV_w) ∧ (0 : Int) ≤ (2 : Int) * prV_w ∧ (2 : Int) * prV_w < (↑(16 : Nat) : Int) ∧ (10 : Nat) < [a (0 : Nat), a (1 : Nat), a (2 : Nat), a (3 : Nat), a (4 : Nat), a (5 : Nat), a (6 : Nat), a (7 : Nat), a (8 : Nat), a (9 : Nat), a (10 : Nat), a (11 : Nat), a (12 : Nat), a (13 : Nat), a (14 : Nat), a (15 : Nat)].length ∧ in64 ([a (0 : Nat), a (1 : Nat), a (2 : Nat), a (3 : Nat), a (4 : Nat), a (5 : Nat), a (6 : Nat), a (7 : Nat), a (8 : Nat), a (9 : Nat), a (10 : Nat), a (11 : Nat), a (12 : Nat), a (13 : Nat), a (14 : Nat), a (15 : Nat)].getD ((10 : Nat)) (0 : Int)) ∧ in64 ((2 : Int) * prV_w) ∧ in64 ((2 : Int) * prV_w + (1 : Int)) ∧ (0 : Int) ≤ (2 : Int) * prV_w + (1 : Int) ∧ (2 : Int) * prV_w + (1 : Int) < (↑(16 : Nat) : Int) ∧ (11 : Nat) < [a (0 : Nat), a (1 : Nat), a (2 : Nat), a (3 : Nat), a (4 : Nat), a (5 : Nat), a (6 : Nat), a (7 : Nat), a (8 : Nat), a (9 : Nat), a (10 : Nat), a (11 : Nat), a (12 : Nat), a (13 : Nat), a (14 : Nat), a (15 : Nat)].length ∧ in64 (prV_o a) ∧ (0 : Int) ≤ (0 : Int) + (1 : Int) + (1 : Int) + (1 : Int) + (1 : Int) + (1 : Int) ∧ (0 : Int) + (1 : Int) + (1 : Int) + (1 : Int) + (1 : Int) + (1 : Int) < (↑(8 : Nat) : Int) ∧ (5 : Nat) < [bits BinOp.or IntKind.i64 (prV_c a) (prV_d a), bits BinOp.or IntKind.i64 (prV_e a) (prV_f a), bits BinOp.or IntKind.i64 (prV_h a) (prV_g a), bits BinOp.or IntKind.i64 (prV_j a) (prV_i a), bits BinOp.or IntKind.i64 (prV_m a) (prV_l a), (0 : Int), (0 : Int), (0 : Int)].length ∧ in64 prV_s ∧ in64 ((2 : Int) * prV_s) ∧ (0 : Int) ≤ (2 : Int) * prV_s ∧ (2 : Int) * prV_s < (↑(16 : Nat) : Int) ∧ (12 : Nat) < [a (0 : Nat), a (1 : Nat), a (2 : Nat), a (3 : Nat), a (4 : Nat), a (5 : Nat), a (6 : Nat), a (7 : Nat), a (8 : Nat), a (9 : Nat), a (10 : Nat), a (11 : Nat), a (12 : Nat), a (13 : Nat), a (14 : Nat), a (15 : Nat)].length ∧ in64 (prV_t a) ∧ in64 ((2 : Int) * prV_s) ∧ in64 ((2 : Int) * prV_s + (1 : Int)) ∧ (0 : Int) ≤ (2 : Int) * prV_s + (1 : Int) ∧ (2 : Int) * prV_s + (1 : Int) < (↑(16 : Nat) : Int) ∧ (13 : Nat) < [a (0 : Nat), a (1 : Nat), a (2 : Nat), a (3 : Nat), a (4 : Nat), a (5 : Nat), a (6 : Nat), a (7 : Nat), a (8 : Nat), a (9 : Nat), a (10 : Nat), a (11 : Nat), a (12 : Nat), a (13 : Nat), a (14 : Nat), a (15 : Nat)].length ∧ in64 (prV_k a) ∧ (0 : Int) ≤ (0 : Int) + (1 : Int) + (1 : Int) + (1 : Int) + (1 : Int) + (1 : Int) + (1 : Int) ∧ (0 : Int) + (1 : Int) + (1 : Int) + (1 : Int) + (1 : Int) + (1 : Int) + (1 : Int) < (↑(8 : Nat) : Int) ∧ (6 : Nat) < [bits BinOp.or IntKind.i64 (prV_c a) (prV_d a), bits BinOp.or IntKind.i64 (prV_e a) (prV_f a), bits BinOp.or IntKind.i64 (prV_h a) (prV_g a), bits BinOp.or IntKind.i64 (prV_j a) (prV_i a), bits BinOp.or IntKind.i64 (prV_m a) (prV_l a), bits BinOp.or IntKind.i64 (prV_q a) (prV_o a), (0 : Int), (0 : Int)].length ∧ in64 prV_p ∧ in64 ((2 : Int) * prV_p) ∧ (0 : Int) ≤ (2 : Int) * prV_p ∧ (2 : Int) * prV_p < (↑(16 : Nat) : Int) ∧ (14 : Nat) < [a (0 : Nat), a (1 : Nat), a (2 : Nat), a (3 : Nat), a (4 : Nat), a (5 : Nat), a (6 : Nat), a (7 : Nat), a (8 : Nat), a (9 : Nat), a (10 : Nat), a (11 : Nat), a (12 : Nat), a (13 : Nat), a (14 : Nat), a (15 : Nat)].length ∧ in64 (prV_u a) ∧ in64 ((2 : Int) * prV_p) ∧ in64 ((2 : Int) * prV_p + (1 : Int)) ∧ (0 : Int) ≤ (2 : Int) * prV_p + (1 : Int) ∧ (2 : Int) * prV_p + (1 : Int) < (↑(16 : Nat) : Int) ∧ (15 : Nat) < [a (0 : Nat), a (1 : Nat), a (2 : Nat), a (3 : Nat), a (4 : Nat), a (5 : Nat), a (6 : Nat), a (7 : Nat), a (8 : Nat), a (9 : Nat), a (10 : Nat), a (11 : Nat), a (12 : Nat), a (13 : Nat), a (14 : Nat), a (15 : Nat)].length ∧ in64 (prV_n a) ∧ (0 : Int) ≤ (0 : Int) + (1 : Int) + (1 : Int) + (1 : Int) + (1 : Int) + (1 : Int) + (1 : Int) + (1 : Int) ∧ (0 : Int) + (1 : Int) + (1 : Int) + (1 : Int) + (1 : Int) + (1 : Int) + (1 : Int) + (1 : Int) < (↑(8 : Nat) : Int) ∧ (7 : Nat) < [bits BinOp.or IntKind.i64 (prV_c a) (prV_d a), bits BinOp.or IntKind.i64 (prV_e a) (prV_f a), bits BinOp.or IntKind.i64 (prV_h a) (prV_g a), bits BinOp.or IntKind.i64 (prV_j a) (prV_i a), bits BinOp.or IntKind.i64 (prV_m a) (prV_l a), bits BinOp.or IntKind.i64 (prV_q a) (prV_o a), bits BinOp.or IntKind.i64 (IntKind.i64.wrap ([a (0 : Nat), a (1 : Nat), a (2 : Nat), a (3 : Nat), a (4 : Nat), a (5 : Nat), a (6 : Nat), a (7 : Nat), a (8 : Nat), a (9 : Nat), a (10 : Nat), a (11 : Nat), a (12 : Nat), a (13 : Nat), a (14 : Nat), a (15 : Nat)].getD ((12 : Nat)) (0 : Int) * (2 : Int) ^ (8 : Nat))) (prV_k a), (0 : Int)].length ∧ in64 ((0 : Int) + (1 : Int) + (1 : Int) + (1 : Int) + (1 : Int) + (1 : Int) + (1 : Int) + (1 : Int) + (1 : Int)) ∧ ∃ (x : (prC a).σ), True ∧ true = true ∧ XV.ptr (0 : Nat) (0 : Nat) (0 : Nat) (0 : Nat) = XV.ptr (0 : Nat) (0 : Nat) (0 : Nat) (0 : Nat) ∧ { data := #[] : ByteArray } = { data := #[] : ByteArray } ∧ XV.ptr ((0 : Nat) + (1 : Nat)) (0 : Nat) (0 : Nat) (0 : Nat) = XV.ptr (1 : Nat) (0 : Nat) (0 : Nat) (0 : Nat) ∧ (prV_r a) ∧ (((69 : Nat) = (69 : TypeId) ∧ true = true) ∧ bits BinOp.or IntKind.i64 (prV_c a) (prV_d a) = gp a (0 : Nat) ∧ bits BinOp.or IntKind.i64 (prV_e a) (prV_f a) = gp a (1 : Nat) ∧ bits BinOp.or IntKind.i64 (prV_h a) (prV_g a) = gp a (2 : Nat) ∧ bits BinOp.or IntKind.i64 (prV_j a) (prV_i a) = gp a (3 : Nat) ∧ bits BinOp.or IntKind.i64 (prV_m a) (prV_l a) = gp a (4 : Nat) ∧ bits BinOp.or IntKind.i64 (prV_q a) (prV_o a) = gp a (5 : Nat) ∧ bits BinOp.or IntKind.i64 (IntKind.i64.wrap ([a (0 : Nat), a (1 : Nat), a (2 : Nat), a (3 : Nat), a (4 : Nat), a (5 : Nat), a (6 : Nat), a (7 : Nat), a (8 : Nat), a (9 : Nat), a (10 : Nat), a (11 : Nat), a (12 : Nat), a (13 : Nat), a (14 : Nat), a (15 : Nat)].getD ((12 : Nat)) (0 : Int) * (2 : Int) ^ (8 : Nat))) (prV_k a) = gp a (6 : Nat) ∧ bits BinOp.or IntKind.i64 (IntKind.i64.wrap ([a (0 : Nat), a (1 : Nat), a (2 : Nat), a (3 : Nat), a (4 : Nat), a (5 : Nat), a (6 : Nat), a (7 : Nat), a (8 : Nat), a (9 : Nat), a (10 : Nat), a (11 : Nat), a (12 : Nat), a (13 : Nat), a (14 : Nat), a (15 : Nat)].getD ((14 : Nat)) (0 : Int) * (2 : Int) ^ (8 : Nat))) (prV_n a) = gp a (7 : Nat) ∧ True) ∧ True) ∧ ∀ (x : UX), True → (∃ (x : (prI a).σ), x.i.le (8 : Nat) ∧ true = true ∧ XV.ptr (0 : Nat) (0 : Nat) (0 : Nat) (0 : Nat) = XV.ptr (0 : Nat) (0 : Nat) (0 : Nat) (0 : Nat) ∧ { data := #[] : ByteArray } = { data := #[] : ByteArray } ∧ XV.ptr (1 : Nat) (0 : Nat) (0 : Nat) (0 : Nat) = XV.ptr (1 : Nat) (0 : Nat) (0 : Nat) (0 : Nat) ∧ (-1 : Int) = (best a x.i).fst ∧ (1 : Int) = (best a x.i).snd ∧ (0 : Int) = (↑x.i : Int) ∧ (prV_a a) ∧ (prV_b a) ∧ True) ∧ ∀ (x : IXAd), x.i.le (8 : Nat) → (decide ((↑x.i : Int) < (8 : Int)) = true → ∃ (p : { α := IXAd, J := prJ a : InvP }.α), (∃ (x_1 : ({ α := IXAd, J := prJ a : InvP }.J p).σ), (p.i + x_1.k ≤ (8 : Nat) ∧ ∀ (j : Nat), j < x_1.k → gp a (p.i + j) = (0 : Int)) ∧ true = true ∧ XV.ptr (0 : Nat) (0 : Nat) (0 : Nat) (0 : Nat) = XV.ptr (0 : Nat) (0 : Nat) (0 : Nat) (0 : Nat) ∧ { data := #[] : ByteArray } = { data := #[] : ByteArray } ∧ XV.ptr (1 : Nat) (0 : Nat) (0 : Nat) (0 : Nat) = XV.ptr (1 : Nat) (0 : Nat) (0 : Nat) (0 : Nat) ∧ (best a x.i).fst = (best a p.i).fst ∧ (best a x.i).snd = (best a p.i).snd ∧ (↑x.i : Int) = (↑p.i : Int) ∧ (↑x.i : Int) = (↑p.i : Int) ∧ (0 : Int) = (↑x_1.k : Int) ∧ (prV_a a) ∧ (prV_b a) ∧ True) ∧ ∀ (x_1 : KX), (p.i + x_1.k ≤ (8 : Nat) ∧ ∀ (j : Nat), j < x_1.k → gp a (p.i + j) = (0 : Int)) → in64 ((↑p.i : Int) + (↑x_1.k : Int)) ∧ (decide ((↑p.i : Int) + (↑x_1.k : Int) < (8 : Int)) = true → in64 ((↑p.i : Int) + (↑x_1.k : Int))) ∧ (decide ((↑p.i : Int) + (↑x_1.k : Int) < (8 : Int)) = true → (0 : Int) ≤ (↑p.i : Int) + (↑x_1.k : Int)) ∧ (decide ((↑p.i : Int) + (↑x_1.k : Int) < (8 : Int)) = true → (↑p.i : Int) + (↑x_1.k : Int) < (↑(8 : Nat) : Int)) ∧ (decide ((↑p.i : Int) + (↑x_1.k : Int) < (8 : Int)) = true → ((↑p.i : Int) + (↑x_1.k : Int)).toNat < [gp a (0 : Nat), gp a (1 : Nat), gp a (2 : Nat), gp a (3 : Nat), gp a (4 : Nat), gp a (5 : Nat), gp a (6 : Nat), gp a (7 : Nat)].length) ∧ ((decide ((↑p.i : Int) + (↑x_1.k : Int) < (8 : Int)) && [gp a (0 : Nat), gp a (1 : Nat), gp a (2 : Nat), gp a (3 : Nat), gp a (4 : Nat), gp a (5 : Nat), gp a (6 : Nat), gp a (7 : Nat)].getD ((↑p.i : Int) + (↑x_1.k : Int)).toNat (0 : Int) == (0 : Int)) = true → in64 ((↑x_1.k : Int) + (1 : Int)) ∧ ∃ (x' : ({ α := IXAd, J := prJ a : InvP }.J p).σ), (p.i + x'.k ≤ (8 : Nat) ∧ ∀ (j : Nat), j < x'.k → gp a (p.i + j) = (0 : Int)) ∧ (8 : Nat) - x'.k < (8 : Nat) - x_1.k ∧ true = true ∧ XV.ptr (0 : Nat) (0 : Nat) (0 : Nat) (0 : Nat) = XV.ptr (0 : Nat) (0 : Nat) (0 : Nat) (0 : Nat) ∧ { data := #[] : ByteArray } = { data := #[] : ByteArray } ∧ XV.ptr (1 : Nat) (0 : Nat) (0 : Nat) (0 : Nat) = XV.ptr (1 : Nat) (0 : Nat) (0 : Nat) (0 : Nat) ∧ (best a p.i).fst = (best a p.i).fst ∧ (best a p.i).snd = (best a p.i).snd ∧ (↑p.i : Int) = (↑p.i : Int) ∧ (↑p.i : Int) = (↑p.i : Int) ∧ (↑x_1.k : Int) + (1 : Int) = (↑x'.k : Int) ∧ (prV_a a) ∧ (prV_b a) ∧ True) ∧ ((decide ((↑p.i : Int) + (↑x_1.k : Int) < (8 : Int)) && [gp a (0 : Nat), gp a (1 : Nat), gp a (2 : Nat), gp a (3 : Nat), gp a (4 : Nat), gp a (5 : Nat), gp a (6 : Nat), gp a (7 : Nat)].getD ((↑p.i : Int) + (↑x_1.k : Int)).toNat (0 : Int) == (0 : Int)) = false → (decide ((↑x_1.k : Int) > (best a p.i).snd) = true → in64 ((↑p.i : Int) + (1 : Int)) ∧ ∃ (x' : (prI a).σ), x'.i.le (8 : Nat) ∧ (8 : Nat) - x'.i < (8 : Nat) - x.i ∧ true = true ∧ XV.ptr (0 : Nat) (0 : Nat) (0 : Nat) (0 : Nat) = XV.ptr (0 : Nat) (0 : Nat) (0 : Nat) (0 : Nat) ∧ { data := #[] : ByteArray } = { data := #[] : ByteArray } ∧ XV.ptr (1 : Nat) (0 : Nat) (0 : Nat) (0 : Nat) = XV.ptr (1 : Nat) (0 : Nat) (0 : Nat) (0 : Nat) ∧ (↑p.i : Int) = (best a x'.i).fst ∧ (↑x_1.k : Int) = (best a x'.i).snd ∧ (↑p.i : Int) + (1 : Int) = (↑x'.i : Int) ∧ (prV_a a) ∧ (prV_b a) ∧ True) ∧ (decide ((↑x_1.k : Int) > (best a p.i).snd) = false → in64 ((↑p.i : Int) + (1 : Int)) ∧ ∃ (x' : (prI a).σ), x'.i.le (8 : Nat) ∧ (8 : Nat) - x'.i < (8 : Nat) - x.i ∧ true = true ∧ XV.ptr (0 : Nat) (0 : Nat) (0 : Nat) (0 : Nat) = XV.ptr (0 : Nat) (0 : Nat) (0 : Nat) (0 : Nat) ∧ { data := #[] : ByteArray } = { data := #[] : ByteArray } ∧ XV.ptr (1 : Nat) (0 : Nat) (0 : Nat) (0 : Nat) = XV.ptr (1 : Nat) (0 : Nat) (0 : Nat) (0 : Nat) ∧ (best a p.i).fst = (best a x'.i).fst ∧ (best a p.i).snd = (best a x'.i).snd ∧ (↑p.i : Int) + (1 : Int) = (↑x'.i : Int) ∧ (prV_a a) ∧ (prV_b a) ∧ True))) ∧ (decide ((↑x.i : Int) < (8 : Int)) = false → (∃ (x_1 : (prK a).σ), (x_1.i ≤ (8 : Nat) ∧ ((↑x_1.i : Int) ≤ (best a (8 : Nat)).fst ∨ (best a (8 : Nat)).fst + (best a (8 : Nat)).snd ≤ (↑x_1.i : Int))) ∧ true = true ∧ XV.ptr (0 : Nat) (0 : Nat) (0 : Nat) (0 : Nat) = XV.ptr (0 : Nat) (0 : Nat) (0 : Nat) (0 : Nat) ∧ { data := #[] : ByteArray } = { data := #[] : ByteArray } ∧ XV.ptr (1 : Nat) (0 : Nat) (0 : Nat) (0 : Nat) = XV.ptr (1 : Nat) (0 : Nat) (0 : Nat) (0 : Nat) ∧ (best a x.i).fst = (best a (8 : Nat)).fst ∧ (best a x.i).snd = (best a (8 : Nat)).snd ∧ { data := #[] : ByteArray } = prT a (best a (8 : Nat)).fst (best a (8 : Nat)).snd x_1.i ∧ (0 : Int) = (↑x_1.i : Int) ∧ (prV_a a) ∧ (prV_b a) ∧ True) ∧ ∀ (x : IXAd), x.i ≤ (8 : Nat) ∧ ((↑x.i : Int) ≤ (best a (8 : Nat)).fst ∨ (best a (8 : Nat)).fst + (best a (8 : Nat)).snd ≤ (↑x.i : Int)) → (decide ((↑x.i : Int) < (8 : Int)) = true → (((↑x.i : Int) == (best a (8 : Nat)).fst) = true → (prT a (best a (8 : Nat)).fst (best a (8 : Nat)).snd x.i).size + (2 : Nat) ≤ (9223372036854775807 : Nat) ∧ in64 ((best a (8 : Nat)).snd - (1 : Int)) ∧ in64 ((↑x.i : Int) + ((best a (8 : Nat)).snd - (1 : Int))) ∧ in64 ((↑x.i : Int) + ((best a (8 : Nat)).snd - (1 : Int)) + (1 : Int)) ∧ ∃ (x' : (prK a).σ), (x'.i ≤ (8 : Nat) ∧ ((↑x'.i : Int) ≤ (best a (8 : Nat)).fst ∨ (best a (8 : Nat)).fst + (best a (8 : Nat)).snd ≤ (↑x'.i : Int))) ∧ (8 : Nat) - x'.i < (8 : Nat) - x.i ∧ true = true ∧ XV.ptr (0 : Nat) (0 : Nat) (0 : Nat) (0 : Nat) = XV.ptr (0 : Nat) (0 : Nat) (0 : Nat) (0 : Nat) ∧ { data := #[] : ByteArray } = { data := #[] : ByteArray } ∧ XV.ptr (1 : Nat) (0 : Nat) (0 : Nat) (0 : Nat) = XV.ptr (1 : Nat) (0 : Nat) (0 : Nat) (0 : Nat) ∧ (best a (8 : Nat)).fst = (best a (8 : Nat)).fst ∧ (best a (8 : Nat)).snd = (best a (8 : Nat)).snd ∧ prT a (best a (8 : Nat)).fst (best a (8 : Nat)).snd x.i ++ { data := #[(58 : UInt8), (58 : UInt8)] : ByteArray } = prT a (best a (8 : Nat)).fst (best a (8 : Nat)).snd x'.i ∧ (↑x.i : Int) + ((best a (8 : Nat)).snd - (1 : Int)) + (1 : Int) = (↑x'.i : Int) ∧ (prV_a a) ∧ (prV_b a) ∧ True) ∧ (((↑x.i : Int) == (best a (8 : Nat)).fst) = false → ((!decide (prT a (best a (8 : Nat)).fst (best a (8 : Nat)).snd x.i = { data := #[] : ByteArray })) = true → (prT a (best a (8 : Nat)).fst (best a (8 : Nat)).snd x.i).size ≤ (1000000000 : Nat)) ∧ ((!decide (prT a (best a (8 : Nat)).fst (best a (8 : Nat)).snd x.i = { data := #[] : ByteArray }) && !hasSufB (prT a (best a (8 : Nat)).fst (best a (8 : Nat)).snd x.i) { data := #[(58 : UInt8)] : ByteArray }) = true → (prT a (best a (8 : Nat)).fst (best a (8 : Nat)).snd x.i).size + (1 : Nat) ≤ (9223372036854775807 : Nat) ∧ (0 : Int) ≤ (↑x.i : Int) ∧ (↑x.i : Int) < (↑(8 : Nat) : Int) ∧ (↑x.i : Int).toNat < [gp a (0 : Nat), gp a (1 : Nat), gp a (2 : Nat), gp a (3 : Nat), gp a (4 : Nat), gp a (5 : Nat), gp a (6 : Nat), gp a (7 : Nat)].length ∧ (0 : Int) ≤ [gp a (0 : Nat), gp a (1 : Nat), gp a (2 : Nat), gp a (3 : Nat), gp a (4 : Nat), gp a (5 : Nat), gp a (6 : Nat), gp a (7 : Nat)].getD (↑x.i : Int).toNat (0 : Int) ∧ [gp a (0 : Nat), gp a (1 : Nat), gp a (2 : Nat), gp a (3 : Nat), gp a (4 : Nat), gp a (5 : Nat), gp a (6 : Nat), gp a (7 : Nat)].getD (↑x.i : Int).toNat (0 : Int) < (65536 : Int) ∧ (16 : Int) = (16 : Int) ∧ (prT a (best a (8 : Nat)).fst (best a (8 : Nat)).snd x.i ++ { data := #[(58 : UInt8)] : ByteArray }).size + (hexB (prV_v a x).toNat).size ≤ (9223372036854775807 : Nat) ∧ in64 ((↑x.i : Int) + (1 : Int)) ∧ ∃ (x' : (prK a).σ), (x'.i ≤ (8 : Nat) ∧ ((↑x'.i : Int) ≤ (best a (8 : Nat)).fst ∨ (best a (8 : Nat)).fst + (best a (8 : Nat)).snd ≤ (↑x'.i : Int))) ∧ (8 : Nat) - x'.i < (8 : Nat) - x.i ∧ true = true ∧ XV.ptr (0 : Nat) (0 : Nat) (0 : Nat) (0 : Nat) = XV.ptr (0 : Nat) (0 : Nat) (0 : Nat) (0 : Nat) ∧ { data := #[] : ByteArray } = { data := #[] : ByteArray } ∧ XV.ptr (1 : Nat) (0 : Nat) (0 : Nat) (0 : Nat) = XV.ptr (1 : Nat) (0 : Nat) (0 : Nat) (0 : Nat) ∧ (best a (8 : Nat)).fst = (best a (8 : Nat)).fst ∧ (best a (8 : Nat)).snd = (best a (8 : Nat)).snd ∧ prT a (best a (8 : Nat)).fst (best a (8 : Nat)).snd x.i ++ { data := #[(58 : UInt8)] : ByteArray } ++ hexB (prV_v a x).toNat = prT a (best a (8 : Nat)).fst (best a (8 : Nat)).snd x'.i ∧ (↑x.i : Int) + (1 : Int) = (↑x'.i : Int) ∧ (prV_a a) ∧ (prV_b a) ∧ True) ∧ ((!decide (prT a (best a (8 : Nat)).fst (best a (8 : Nat)).snd x.i = { data := #[] : ByteArray }) && !hasSufB (prT a (best a (8 : Nat)).fst (best a (8 : Nat)).snd x.i) { data := #[(58 : UInt8)] : ByteArray }) = false → (0 : Int) ≤ (↑x.i : Int) ∧ (↑x.i : Int) < (↑(8 : Nat) : Int) ∧ (↑x.i : Int).toNat < [gp a (0 : Nat), gp a (1 : Nat), gp a (2 : Nat), gp a (3 : Nat), gp a (4 : Nat), gp a (5 : Nat), gp a (6 : Nat), gp a (7 : Nat)].length ∧ (0 : Int) ≤ [gp a (0 : Nat), gp a (1 : Nat), gp a (2 : Nat), gp a (3 : Nat), gp a (4 : Nat), gp a (5 : Nat), gp a (6 : Nat), gp a (7 : Nat)].getD (↑x.i : Int).toNat (0 : Int) ∧ [gp a (0 : Nat), gp a (1 : Nat), gp a (2 : Nat), gp a (3 : Nat), gp a (4 : Nat), gp a (5 : Nat), gp a (6 : Nat), gp a (7 : Nat)].getD (↑x.i : Int).toNat (0 : Int) < (65536 : Int) ∧ (16 : Int) = (16 : Int) ∧ (prT a (best a (8 : Nat)).fst (best a (8 : Nat)).snd x.i).size + (hexB (prV_v a x).toNat).size ≤ (9223372036854775807 : Nat) ∧ in64 ((↑x.i : Int) + (1 : Int)) ∧ ∃ (x' : (prK a).σ), (x'.i ≤ (8 : Nat) ∧ ((↑x'.i : Int) ≤ (best a (8 : Nat)).fst ∨ (best a (8 : Nat)).fst + (best a (8 : Nat)).snd ≤ (↑x'.i : Int))) ∧ (8 : Nat) - x'.i < (8 : Nat) - x.i ∧ true = true ∧ XV.ptr (0 : Nat) (0 : Nat) (0 : Nat) (0 : Nat) = XV.ptr (0 : Nat) (0 : Nat) (0 : Nat) (0 : Nat) ∧ { data := #[] : ByteArray } = { data := #[] : ByteArray } ∧ XV.ptr (1 : Nat) (0 : Nat) (0 : Nat) (0 : Nat) = XV.ptr (1 : Nat) (0 : Nat) (0 : Nat) (0 : Nat) ∧ (best a (8 : Nat)).fst = (best a (8 : Nat)).fst ∧ (best a (8 : Nat)).snd = (best a (8 : Nat)).snd ∧ prT a (best a (8 : Nat)).fst (best a (8 : Nat)).snd x.i ++ hexB (prV_v a x).toNat = prT a (best a (8 : Nat)).fst (best a (8 : Nat)).snd x'.i ∧ (↑x.i : Int) + (1 : Int) = (↑x'.i : Int) ∧ (prV_a a) ∧ (prV_b a) ∧ True))) ∧ (decide ((↑x.i : Int) < (8 : Int)) = false → prT a (best a (8 : Nat)).fst (best a (8 : Nat)).snd x.i = prn a)))
theorem prV_eq (a : Nat → Int) : prV a = (funC cxp Tryz.f28 (mkSc (prE a) (bodyOf Tryz.f28)) [adr a] (XT (prn a))) := by kernel_rfl
theorem g16b (a : Nat → Int) (h : ∀ k, k < 16 → 0 ≤ a k ∧ a k ≤ 255) (k : Nat) : 0 ≤ [a 0, a 1, a 2, a 3, a 4, a 5, a 6, a 7, a 8, a 9, a 10, a 11, a 12, a 13, a 14, a 15].getD k 0 ∧ [a 0, a 1, a 2, a 3, a 4, a 5, a 6, a 7, a 8, a 9, a 10, a 11, a 12, a 13, a 14, a 15].getD k 0 ≤ 255 := by
 by_cases hk : k < 16
 ·rw [get16 a k hk]; exact h k hk
 ·rw [List.getD_eq_getElem?_getD, List.getElem?_eq_none (by show 16 ≤ k; omega)]; exact ⟨Int.le_refl 0, by decide⟩
theorem gp_bits (x y : Int) (hx : 0 ≤ x ∧ x ≤ 255) (hy : 0 ≤ y ∧ y ≤ 255) : bits .or .i64 (IntKind.i64.wrap (x * 2 ^ 8)) y = x * 256 + y := by
 have hw : ∀ n : Int, 0 ≤ n → n < 2 ^ 63 → IntKind.i64.wrap n = n := fun n h0 h1 => by
  have e : n % 2 ^ 64 = n := Int.emod_eq_of_lt h0 (by omega)
  simp only [IntKind.wrap, IntKind.bits, IntKind.signed, e]
  rw [if_neg]
  simp
  omega
 rw [hw _ (by omega) (by omega)]
 rw [bits_join .i64 63 (by decide) hw 8 _ _ (by omega) (by omega) (by omega) (by omega) (by omega) (by omega)]
 omega
theorem in64_b {x : Int} (h : 0 ≤ x ∧ x ≤ 255) : in64 x := by unfold in64; omega
theorem itoaB_byte : ∀ x : Fin 256, (itoaB (x.val : Int)).size ≤ 3 := by decide +kernel
theorem prF_size (a : Nat → Int) (ha : ∀ k, k < 16 → 0 ≤ a k ∧ a k ≤ 255) (j : Nat) (hj : j < 4) : (prF a j).size ≤ 1000000 := by
 have h := ha (12 + j) (by omega)
 have := itoaB_byte ⟨(a (12 + j)).toNat, by omega⟩
 rw [show (((⟨(a (12 + j)).toNat, by omega⟩ : Fin 256).val : Nat) : Int) = a (12 + j) by show (((a (12 + j)).toNat : Nat) : Int) = _; omega] at this
 exact Nat.le_trans this (by omega)
theorem gp_b (a : Nat → Int) (ha : ∀ k, k < 16 → 0 ≤ a k ∧ a k ≤ 255) (j : Nat) (hj : j < 8) : 0 ≤ gp a j ∧ gp a j < 65536 := by
 have h1 := ha (2 * j) (by omega)
 have h2 := ha (2 * j + 1) (by omega)
 unfold gp
 omega
theorem get8 (g : Nat → Int) : ∀ j, j < 8 → [g 0, g 1, g 2, g 3, g 4, g 5, g 6, g 7].getD j 0 = g j
 | 0, _ => rfl | 1, _ => rfl | 2, _ => rfl | 3, _ => rfl | 4, _ => rfl | 5, _ => rfl | 6, _ => rfl | 7, _ => rfl
 | n + 8, h => absurd h (by omega)
theorem zrun_eq (a : Nat → Int) : ∀ (k f i : Nat), (∀ j, j < k → gp a (i + j) = 0) → i + k ≤ 8 → (i + k = 8 ∨ gp a (i + k) ≠ 0) → k < f → zrun a f i = k
 | _, 0, _, _, _, _, h => absurd h (by omega)
 | 0, f + 1, i, _, h8, he, _ => by
  rw [zrun, if_neg]
  rintro ⟨h1, h2⟩
  rcases he with he | he
  ·omega
  ·exact he h2
 | k + 1, f + 1, i, hz, h8, he, hf => by
  rw [zrun, if_pos ⟨by omega, hz 0 (by omega)⟩, zrun_eq a k f (i + 1) (fun j hj => by rw [show i + 1 + j = i + (j + 1) by omega]; exact hz (j + 1) (by omega)) (by omega) (by rw [show i + 1 + k = i + (k + 1) by omega]; exact he) (by omega)]
theorem zrun_z (a : Nat → Int) : ∀ (f i : Nat), (∀ j, j < zrun a f i → gp a (i + j) = 0) ∧ (zrun a f i = 0 ∨ i + zrun a f i ≤ 8)
 | 0, i => ⟨fun j hj => absurd hj (by rw [zrun]; omega), .inl rfl⟩
 | f + 1, i => by
  by_cases h : i < 8 ∧ gp a i = 0
  ·have ih := zrun_z a f (i + 1)
   rw [zrun, if_pos h]
   refine ⟨fun j hj => ?_, .inr ?_⟩
   ·cases j with
    | zero => exact h.2
    | succ j => rw [show i + (j + 1) = i + 1 + j by omega]; exact ih.1 j (by omega)
   ·rcases ih.2 with ih | ih <;> omega
  ·rw [zrun, if_neg h]
   exact ⟨fun j hj => absurd hj (by omega), .inl rfl⟩
theorem best_i (a : Nat → Int) : ∀ n, ((best a n).1 = -1 ∧ (best a n).2 = 1) ∨ ((0 ≤ (best a n).1 ∧ (best a n).1 < n) ∧ (best a n).1 + (best a n).2 ≤ 8 ∧ 2 ≤ (best a n).2)
 | 0 => .inl ⟨rfl, rfl⟩
 | n + 1 => by
  have ih := best_i a n
  rw [best]
  split
  ·rename_i h
   have hz := (zrun_z a 9 n).2
   right
   refine ⟨⟨by show (0 : Int) ≤ n; omega, by show (n : Int) < ((n + 1 : Nat) : Int); omega⟩, ?_, ?_⟩
   ·show (n : Int) + (zrun a 9 n : Int) ≤ 8
    rcases hz with hz | hz <;> omega
   ·show (2 : Int) ≤ (zrun a 9 n : Int)
    rcases ih with ih | ih <;> omega
  ·rcases ih with ih | ih
   ·exact .inl ih
   ·exact .inr ⟨⟨ih.1.1, by omega⟩, ih.2⟩
theorem hexB_size (n : Nat) : (hexB n).size ≤ 4 := by
 show (hexL n).length ≤ 4
 unfold hexL
 split
 ·show 1 ≤ 4; omega
 ·split
  ·show 2 ≤ 4; omega
  ·split
   ·show 3 ≤ 4; omega
   ·show 4 ≤ 4; omega
theorem prT_size (a : Nat → Int) (b r : Int) : ∀ k, (prT a b r k).size ≤ 8 * k
 | 0 => Nat.le_refl _
 | k + 1 => by
  have ih := prT_size a b r k
  have hh := hexB_size (gp a k).toNat
  rw [prT]
  split
  ·split
   ·rw [ByteArray.size_append]
    show _ + 2 ≤ _
    omega
   ·omega
  ·rw [ByteArray.size_append]
   split
   ·rw [ByteArray.size_append]
    show _ + 1 + _ ≤ _
    omega
   ·omega
theorem prT_in (a : Nat → Int) (b r : Nat) : ∀ n, n < r → prT a b r (b + n + 1) = prT a b r b ++ ⟨#[58, 58]⟩
 | 0, h => by rw [Nat.add_zero, prT, if_pos ⟨by omega, by omega⟩, if_pos rfl]
 | n + 1, h => by
  rw [prT, if_pos ⟨by omega, by omega⟩, if_neg (by omega)]
  exact prT_in a b r n (by omega)
theorem prT_out (a : Nat → Int) (b r : Int) (k : Nat) (h : (k : Int) < b ∨ b + r ≤ k) : prT a b r (k + 1) = (if prT a b r k ≠ ⟨#[]⟩ ∧ hasSufB (prT a b r k) ⟨#[58]⟩ = false then prT a b r k ++ ⟨#[58]⟩ else prT a b r k) ++ hexB (gp a k).toNat := by
 rw [prT, if_neg (by omega)]
theorem pr_v (a : Nat → Int) (ha : ∀ k, k < 16 → 0 ≤ a k ∧ a k ≤ 255) : prV a := by
 have hb := g16b a ha
 unfold prV prV_y prV_x prV_w prV_v prV_u prV_t prV_s prV_r prV_q prV_p prV_o prV_n prV_m prV_l prV_k prV_j prV_i prV_h prV_g prV_f prV_e prV_d prV_c prV_b prV_a
 refine ⟨fun h => ⟨?_, ?_⟩, fun h => ⟨?_, ?_⟩⟩
 ·have h4 : is4 a = true := h
  and_intros
  any_goals first | with_reducible rfl | trivial | omega | exact (hb _).1 | exact Int.le_trans (hb _).2 (by decide) | exact Int.le_trans (by decide) (hb _).1 | (simp only [List.length_cons, List.length_nil]; omega)
  refine ⟨⟨()⟩, h4, rfl, rfl, rfl, rfl, ?_, ?_, trivial⟩
  ·and_intros <;> first | with_reducible rfl | trivial
  ·refine ⟨by and_intros <;> rfl, rfl, fun j hj => ?_⟩
   match j, hj with
   | 0, _ => rfl
   | 1, _ => rfl
   | 2, _ => rfl
   | 3, _ => rfl
 ·rintro ⟨_⟩ h4
  have h4 : is4 a = true := h4
  refine ⟨rfl, fun _ _ => rfl, by omega, fun i hi => prF_size a ha i hi, by omega, ?_⟩
  unfold prn
  rw [if_pos h4]
  rfl
 ·and_intros
  any_goals first | with_reducible rfl | trivial | omega | exact (hb _).1 | exact Int.le_trans (hb _).2 (by decide) | exact Int.le_trans (by decide) (hb _).1 | (simp only [List.length_cons, List.length_nil]; omega)
  refine ⟨⟨()⟩, trivial, rfl, rfl, rfl, rfl, ?_, ⟨⟨rfl, rfl⟩, ?_⟩, trivial⟩
  ·and_intros <;> first | with_reducible rfl | trivial
  ·and_intros <;> first | exact gp_bits _ _ (hb _) (hb _) | trivial
 ·rintro ⟨_⟩ _
  refine ⟨⟨⟨0⟩, Nat.zero_le _, rfl, rfl, rfl, rfl, rfl, rfl, rfl, ?_, ?_, trivial⟩, ?_⟩
  ·and_intros <;> first | with_reducible rfl | trivial
  ·and_intros <;> first | with_reducible rfl | trivial
  rintro ⟨i⟩ hi
  have hi : i ≤ 8 := hi
  refine ⟨fun h1 => ?_, fun h1 => ?_⟩
  ·have h1 : (i : Int) < 8 := of_decide_eq_true h1
   have hil : i < 8 := by omega
   refine ⟨⟨i⟩, ⟨⟨0⟩, ⟨hi, fun j hj => absurd hj (by show ¬ j < 0; omega)⟩, rfl, rfl, rfl, rfl, rfl, rfl, rfl, rfl, rfl, ?_, ?_, trivial⟩, ?_⟩
   ·and_intros <;> first | with_reducible rfl | trivial
   ·and_intros <;> first | with_reducible rfl | trivial
   rintro ⟨k⟩ ⟨hk, hz⟩
   have hk : i + k ≤ 8 := hk
   have hz : ∀ j, j < k → gp a (i + j) = 0 := hz
   have e : ((i : Int) + (k : Int)).toNat = i + k := by omega
   refine ⟨by unfold in64; dsimp only; omega, fun _ => by unfold in64; dsimp only; omega, fun _ => by dsimp only; omega, fun h2 => of_decide_eq_true h2, fun h2 => ?_, fun h2 => ?_, fun h2 => ?_⟩
   ·have h2 : (i : Int) + k < 8 := of_decide_eq_true h2
    show ((i : Int) + (k : Int)).toNat < 8
    omega
   ·dsimp only at h2
    rw [Bool.and_eq_true] at h2
    obtain ⟨h2, h3⟩ := h2
    have h2 : (i : Int) + k < 8 := of_decide_eq_true h2
    rw [e, get8 (gp a) _ (by omega), beq_iff_eq] at h3
    refine ⟨by unfold in64; dsimp only; omega, ⟨k + 1⟩, ⟨by show i + (k + 1) ≤ 8; omega, fun j hj => ?_⟩, by show 8 - (k + 1) < 8 - k; omega, rfl, rfl, rfl, rfl, rfl, rfl, rfl, rfl, rfl, ?_, ?_, trivial⟩
    ·have hj : j < k + 1 := hj
     by_cases hjk : j = k
     ·rw [hjk]; exact h3
     ·exact hz j (by omega)
    ·and_intros <;> first | with_reducible rfl | trivial
    ·and_intros <;> first | with_reducible rfl | trivial
   ·dsimp only at h2
    have hr : zrun a 9 i = k := by
     refine zrun_eq a k 9 i hz hk ?_ (by omega)
     by_cases h8 : i + k = 8
     ·exact .inl h8
     ·right
      intro h3
      rw [e, get8 (gp a) _ (by omega), h3] at h2
      rw [decide_eq_true (by omega : (i : Int) + k < 8)] at h2
      exact Bool.noConfusion h2
    have hbs : best a (i + 1) = if (best a i).2 < (k : Int) then ((i : Int), (k : Int)) else best a i := by rw [best, hr]
    refine ⟨fun h3 => ?_, fun h3 => ?_⟩
    ·have h3 : (best a i).2 < (k : Int) := of_decide_eq_true h3
     rw [if_pos h3] at hbs
     refine ⟨by unfold in64; dsimp only; omega, ⟨i + 1⟩, (by show i + 1 ≤ 8; omega), by show 8 - (i + 1) < 8 - i; omega, rfl, rfl, rfl, rfl, by rw [hbs], by rw [hbs], rfl, ?_, ?_, trivial⟩
     ·and_intros <;> first | with_reducible rfl | trivial
     ·and_intros <;> first | with_reducible rfl | trivial
    ·have h3 : ¬ (best a i).2 < (k : Int) := of_decide_eq_false h3
     rw [if_neg h3] at hbs
     refine ⟨by unfold in64; dsimp only; omega, ⟨i + 1⟩, (by show i + 1 ≤ 8; omega), by show 8 - (i + 1) < 8 - i; omega, rfl, rfl, rfl, rfl, by rw [hbs], by rw [hbs], rfl, ?_, ?_, trivial⟩
     ·and_intros <;> first | with_reducible rfl | trivial
     ·and_intros <;> first | with_reducible rfl | trivial
  ·have h1 : ¬ (i : Int) < 8 := of_decide_eq_false h1
   obtain rfl : i = 8 := by omega
   have hbi := best_i a 8
   refine ⟨⟨⟨0⟩, ⟨Nat.zero_le _, ?_⟩, rfl, rfl, rfl, rfl, rfl, rfl, rfl, rfl, ?_, ?_, trivial⟩, ?_⟩
   ·show ((0 : Nat) : Int) ≤ _ ∨ _ ≤ ((0 : Nat) : Int)
    omega
   ·and_intros <;> first | with_reducible rfl | trivial
   ·and_intros <;> first | with_reducible rfl | trivial
   rintro ⟨i⟩ ⟨hi, hib⟩
   have hi : i ≤ 8 := hi
   have hib : (i : Int) ≤ (best a 8).1 ∨ (best a 8).1 + (best a 8).2 ≤ (i : Int) := hib
   have hps := prT_size a (best a 8).1 (best a 8).2 i
   refine ⟨fun h2 => ?_, fun h2 => ?_⟩
   ·have h2 : (i : Int) < 8 := of_decide_eq_true h2
    refine ⟨fun h3 => ?_, fun h3 => ?_⟩
    ·have h3 : (i : Int) = (best a 8).1 := beq_iff_eq.mp h3
     obtain ⟨r, hr⟩ : ∃ r : Nat, (best a 8).2 = (r : Int) + 1 := ⟨((best a 8).2 - 1).toNat, by omega⟩
     refine ⟨by dsimp only; omega, by unfold in64; omega, by unfold in64; dsimp only; omega, by unfold in64; dsimp only; omega, ⟨i + r + 1⟩, ⟨by show i + r + 1 ≤ 8; omega, .inr (by show _ ≤ ((i + r + 1 : Nat) : Int); omega)⟩, by show 8 - (i + r + 1) < 8 - i; omega, rfl, rfl, rfl, rfl, rfl, rfl, ?_, by show (i : Int) + ((best a 8).2 - 1) + 1 = ((i + r + 1 : Nat) : Int); omega, ?_, ?_, trivial⟩
     ·rw [← h3, hr]
      exact (prT_in a i (r + 1) r (by omega)).symm
     ·and_intros <;> first | with_reducible rfl | trivial
     ·and_intros <;> first | with_reducible rfl | trivial
    ·have h3 : ¬ (i : Int) = (best a 8).1 := fun e => by rw [beq_iff_eq.mpr e] at h3; cases h3
     have e : (i : Int).toNat = i := by omega
     have hg := get8 (gp a) i (by omega)
     have hgb := gp_b a ha i (by omega)
     have hh := hexB_size (gp a i).toNat
     have hpo := prT_out a (best a 8).1 (best a 8).2 i (by omega)
     dsimp only
     rw [e, hg]
     refine ⟨fun _ => by omega, fun h4 => ?_, fun h4 => ?_⟩
     ·rw [Bool.and_eq_true, Bool.not_eq_true', Bool.not_eq_true', decide_eq_false_iff_not] at h4
      rw [if_pos h4] at hpo
      refine ⟨by omega, by omega, by omega, by show i < 8; omega, hgb.1, hgb.2, rfl, by rw [ByteArray.size_append]; show _ + 1 + _ ≤ _; omega, by unfold in64; omega, ⟨i + 1⟩, ⟨by show i + 1 ≤ 8; omega, by show ((i + 1 : Nat) : Int) ≤ _ ∨ _ ≤ ((i + 1 : Nat) : Int); omega⟩, by show 8 - (i + 1) < 8 - i; omega, rfl, rfl, rfl, rfl, rfl, rfl, hpo.symm, rfl, ?_, ?_, trivial⟩
      ·and_intros <;> first | with_reducible rfl | trivial
      ·and_intros <;> first | with_reducible rfl | trivial
     ·have h4 : ¬ (prT a (best a 8).1 (best a 8).2 i ≠ ⟨#[]⟩ ∧ hasSufB (prT a (best a 8).1 (best a 8).2 i) ⟨#[58]⟩ = false) := fun ⟨h5, h6⟩ => by
       rw [decide_eq_false h5, h6] at h4
       cases h4
      rw [if_neg h4] at hpo
      refine ⟨by omega, by omega, by show i < 8; omega, hgb.1, hgb.2, rfl, by omega, by unfold in64; omega, ⟨i + 1⟩, ⟨by show i + 1 ≤ 8; omega, by show ((i + 1 : Nat) : Int) ≤ _ ∨ _ ≤ ((i + 1 : Nat) : Int); omega⟩, by show 8 - (i + 1) < 8 - i; omega, rfl, rfl, rfl, rfl, rfl, rfl, hpo.symm, rfl, ?_, ?_, trivial⟩
      ·and_intros <;> first | with_reducible rfl | trivial
      ·and_intros <;> first | with_reducible rfl | trivial
   ·have h2 : ¬ (i : Int) < 8 := of_decide_eq_false h2
    obtain rfl : i = 8 := by omega
    show prT a (best a 8).1 (best a 8).2 8 = prn a
    have h4 : ¬ is4 a = true := fun e => by
     have h : is4 a = false := h
     rw [e] at h
     cases h
    unfold prn
    rw [if_neg h4]
end Go.Proofs.YtkjcoehblekpdaaGreatDoorAv
namespace Go.Proofs.YtkjcoehblekpdaaGreatDoorAv
open Go Go.RowKit
def b16 (g : Nat → Int) : Prop := ∀ k, k < 16 → 0 ≤ g k ∧ g k ≤ 255
def prnC : CT := C1 dAL (fun g => [b16 g]) fun g => XT (prn g)
theorem pr_ok : CTok Tryz.prog 28 prnC := C1_ok cxp_ok Tryz.func28 rfl (by decide) dAL_eq.ok (by kernel_rfl) (fun _ => rfl) fun g hc => exv (prV_eq g) (pr_v g (hc (b16 g) (.head _)))
def foC : CT := C1 dStr (fun s => [s.size ≤ 1000000]) fun s => .tup [adr (four s).1, XB (four s).2]
def siC : CT := C1 dStr (fun s => [s.size ≤ 1000000]) fun s => .tup [adr (six s).1, XB (six s).2]
def cxq : Cx := { cx0 with C := [(33, foC), (34, siC), (28, prnC)] }
theorem cxq_ok : cxq.ok Tryz.prog := ((cx0_ok.addC pr_ok).addC si_ok).addC fo_ok
def parB (s : ByteArray) : Nat → Int := if (four s).2 = true then (four s).1 else (six s).1
def parOk (s : ByteArray) : Bool := ((four s).2 || (six s).2) && decide (prn (parB s) = s)
def parA (s : ByteArray) : Nat → Int := if parOk s = true then parB s else zeroA
def parN (s : ByteArray) : Int := if parOk s = true then 0 else 5
def paV_a (s : ByteArray) :=
 ((0 : Int) = parA s 0 ∧ (0 : Int) = parA s 1 ∧ (0 : Int) = parA s 2 ∧ (0 : Int) = parA s 3 ∧ (0 : Int) = parA s 4 ∧ (0 : Int) = parA s 5 ∧ (0 : Int) = parA s 6 ∧ (0 : Int) = parA s 7 ∧ (0 : Int) = parA s 8 ∧ (0 : Int) = parA s 9 ∧ (0 : Int) = parA s 10 ∧ (0 : Int) = parA s 11 ∧ (0 : Int) = parA s 12 ∧ (0 : Int) = parA s 13 ∧ (0 : Int) = parA s 14 ∧ (0 : Int) = parA s 15 ∧ True)
def paV_b (s : ByteArray) :=
 (!(four s).snd || !decide ((prn fun (i : Nat) => [(four s).fst 0, (four s).fst 1, (four s).fst 2, (four s).fst 3, (four s).fst 4, (four s).fst 5, (four s).fst 6, (four s).fst 7, (four s).fst 8, (four s).fst 9, (four s).fst 10, (four s).fst 11, (four s).fst 12, (four s).fst 13, (four s).fst 14, (four s).fst 15].getD i 0) = s))
def paV_c (s : ByteArray) :=
 (!(six s).snd || !decide ((prn fun (i : Nat) => [(six s).fst 0, (six s).fst 1, (six s).fst 2, (six s).fst 3, (six s).fst 4, (six s).fst 5, (six s).fst 6, (six s).fst 7, (six s).fst 8, (six s).fst 9, (six s).fst 10, (six s).fst 11, (six s).fst 12, (six s).fst 13, (six s).fst 14, (six s).fst 15].getD i 0) = s))
def paV (s : ByteArray) : Prop :=
 s.size ≤ (1000000 : Nat) ∧ ((!(four s).snd) = true → s.size ≤ (1000000 : Nat) ∧ ((!!(six s).snd) = true → b16 fun (i : Nat) => [(six s).fst 0, (six s).fst 1, (six s).fst 2, (six s).fst 3, (six s).fst 4, (six s).fst 5, (six s).fst 6, (six s).fst 7, (six s).fst 8, (six s).fst 9, (six s).fst 10, (six s).fst 11, (six s).fst 12, (six s).fst 13, (six s).fst 14, (six s).fst 15].getD i 0) ∧ ((paV_c s) = true → (paV_a s) ∧ (5 : Int) = parN s ∧ True) ∧ ((paV_c s) = false → ((six s).fst 0 = parA s 0 ∧ (six s).fst 1 = parA s 1 ∧ (six s).fst 2 = parA s 2 ∧ (six s).fst 3 = parA s 3 ∧ (six s).fst 4 = parA s 4 ∧ (six s).fst 5 = parA s 5 ∧ (six s).fst 6 = parA s 6 ∧ (six s).fst 7 = parA s 7 ∧ (six s).fst 8 = parA s 8 ∧ (six s).fst 9 = parA s 9 ∧ (six s).fst 10 = parA s 10 ∧ (six s).fst 11 = parA s 11 ∧ (six s).fst 12 = parA s 12 ∧ (six s).fst 13 = parA s 13 ∧ (six s).fst 14 = parA s 14 ∧ (six s).fst 15 = parA s 15 ∧ True) ∧ (0 : Int) = parN s ∧ True)) ∧ ((!(four s).snd) = false → ((!!(four s).snd) = true → b16 fun (i : Nat) => [(four s).fst 0, (four s).fst 1, (four s).fst 2, (four s).fst 3, (four s).fst 4, (four s).fst 5, (four s).fst 6, (four s).fst 7, (four s).fst 8, (four s).fst 9, (four s).fst 10, (four s).fst 11, (four s).fst 12, (four s).fst 13, (four s).fst 14, (four s).fst 15].getD i 0) ∧ ((paV_b s) = true → (paV_a s) ∧ (5 : Int) = parN s ∧ True) ∧ ((paV_b s) = false → ((four s).fst 0 = parA s 0 ∧ (four s).fst 1 = parA s 1 ∧ (four s).fst 2 = parA s 2 ∧ (four s).fst 3 = parA s 3 ∧ (four s).fst 4 = parA s 4 ∧ (four s).fst 5 = parA s 5 ∧ (four s).fst 6 = parA s 6 ∧ (four s).fst 7 = parA s 7 ∧ (four s).fst 8 = parA s 8 ∧ (four s).fst 9 = parA s 9 ∧ (four s).fst 10 = parA s 10 ∧ (four s).fst 11 = parA s 11 ∧ (four s).fst 12 = parA s 12 ∧ (four s).fst 13 = parA s 13 ∧ (four s).fst 14 = parA s 14 ∧ (four s).fst 15 = parA s 15 ∧ True) ∧ (0 : Int) = parN s ∧ True))
theorem paV_eq (s : ByteArray) : paV s = (funC cxq Tryz.f23 .nil [XT s] (.tup [adr (parA s), XI (parN s)])) := by kernel_rfl
theorem wrap8 (n : Int) : 0 ≤ IntKind.u8.wrap n ∧ IntKind.u8.wrap n ≤ 255 := by
 have e : IntKind.u8.wrap n = n % 256 := by simp [IntKind.wrap, IntKind.bits, IntKind.signed]
 rw [e]
 omega
theorem zero_b : b16 zeroA := fun k _ => ⟨Int.le_refl 0, by show (0 : Int) ≤ 255; omega⟩
theorem fourF_b (l : List ByteArray) (i k : Nat) : 0 ≤ fourF l i k ∧ fourF l i k ≤ 255 := by
 unfold fourF
 split
 ·exact wrap8 _
 ·omega
theorem v4_b (a b c d : Int) (ha : 0 ≤ a ∧ a ≤ 255) (hb : 0 ≤ b ∧ b ≤ 255) (hc : 0 ≤ c ∧ c ≤ 255) (hd : 0 ≤ d ∧ d ≤ 255) : b16 (v4 a b c d) := fun k hk => by
 have h0 : (0 : Int) ≤ 0 ∧ (0 : Int) ≤ 255 := by omega
 have h1 : (0 : Int) ≤ 255 ∧ (255 : Int) ≤ 255 := by omega
 rcases k with _ | _ | _ | _ | _ | _ | _ | _ | _ | _ | _ | _ | _ | _ | _ | _ | k
 case zero => exact h0
 case succ.succ.succ.succ.succ.succ.succ.succ.succ.succ.succ.succ.succ.succ.succ.succ => exact absurd hk (by omega)
 all_goals first | exact h0 | exact h1 | exact ha | exact hb | exact hc | exact hd
theorem four_b (s : ByteArray) : b16 (four s).1 := by
 unfold four
 split
 ·exact v4_b _ _ _ _ (fourF_b _ _ _) (fourF_b _ _ _) (fourF_b _ _ _) (fourF_b _ _ _)
 ·exact zero_b
theorem sixA_b (p : LR) : ∀ i k, 0 ≤ sixA p i k ∧ sixA p i k ≤ 255
 | 0, k => ⟨Int.le_refl 0, by show (0 : Int) ≤ 255; omega⟩
 | i + 1, k => by
  rw [sixA]
  dsimp only
  split
  ·exact wrap8 _
  ·split
   ·exact wrap8 _
   ·exact sixA_b p i k
theorem six_b (s : ByteArray) : b16 (six s).1 := by
 unfold six
 split
 ·exact fun k _ => sixA_b _ _ k
 ·exact zero_b
theorem parB_b (s : ByteArray) : b16 (parB s) := by
 unfold parB
 split
 ·exact four_b s
 ·exact six_b s
theorem parA_b (s : ByteArray) : b16 (parA s) := by
 unfold parA
 split
 ·exact parB_b s
 ·exact zero_b
theorem gp_ext {a b : Nat → Int} (h : ∀ k, k < 16 → a k = b k) (j : Nat) (hj : j < 8) : gp a j = gp b j := by
 unfold gp
 rw [h _ (by omega), h _ (by omega)]
theorem zrun_ext {a b : Nat → Int} (h : ∀ k, k < 16 → a k = b k) : ∀ f i, zrun a f i = zrun b f i
 | 0, i => rfl
 | f + 1, i => by
  rw [zrun, zrun, zrun_ext h f (i + 1)]
  by_cases hi : i < 8
  ·rw [gp_ext h i hi]
  ·rw [if_neg (fun e => hi e.1), if_neg (fun e => hi e.1)]
theorem best_ext {a b : Nat → Int} (h : ∀ k, k < 16 → a k = b k) : ∀ n, best a n = best b n
 | 0 => rfl
 | n + 1 => by rw [best, best, best_ext h n, zrun_ext h]
theorem prT_ext {a b : Nat → Int} (h : ∀ k, k < 16 → a k = b k) (c r : Int) : ∀ n, n ≤ 8 → prT a c r n = prT b c r n
 | 0, _ => rfl
 | n + 1, hn => by rw [prT, prT, prT_ext h c r n (by omega), gp_ext h n (by omega)]
theorem is4_ext {a b : Nat → Int} (h : ∀ k, k < 16 → a k = b k) : is4 a = is4 b := by
 unfold is4
 rw [h 0 (by omega), h 1 (by omega), h 2 (by omega), h 3 (by omega), h 4 (by omega), h 5 (by omega), h 6 (by omega), h 7 (by omega), h 8 (by omega), h 9 (by omega), h 10 (by omega), h 11 (by omega)]
theorem prn_ext {a b : Nat → Int} (h : ∀ k, k < 16 → a k = b k) : prn a = prn b := by
 unfold prn
 rw [is4_ext h, best_ext h, prT_ext h _ _ 8 (Nat.le_refl _)]
 have e : (List.range 4).map (prF a) = (List.range 4).map (prF b) := by
  apply List.map_congr_left
  intro i hi
  have := List.mem_range.1 hi
  unfold prF
  rw [h _ (by omega)]
 rw [e]
theorem prn_l (g : Nat → Int) : (prn fun i => [g 0, g 1, g 2, g 3, g 4, g 5, g 6, g 7, g 8, g 9, g 10, g 11, g 12, g 13, g 14, g 15].getD i 0) = prn g := prn_ext fun k hk => get16 g k hk
theorem b16_l {g : Nat → Int} (h : b16 g) : b16 fun i => [g 0, g 1, g 2, g 3, g 4, g 5, g 6, g 7, g 8, g 9, g 10, g 11, g 12, g 13, g 14, g 15].getD i 0 := fun k hk => by
 dsimp only
 rw [get16 g k hk]
 exact h k hk
theorem pa_v (s : ByteArray) (hs : s.size ≤ 1000000) : paV s := by
 unfold paV paV_c paV_b paV_a
 rw [prn_l (six s).1, prn_l (four s).1]
 have key : ∀ g : Nat → Int, parB s = g → ∀ ok : Bool, ((four s).2 || (six s).2) = ok →
   ((!ok || !decide (prn g = s)) = true → parA s = zeroA ∧ parN s = 5) ∧ ((!ok || !decide (prn g = s)) = false → parA s = g ∧ parN s = 0) := fun g hg ok hok => by
  have e : (!ok || !decide (prn g = s)) = !parOk s := by
   unfold parOk
   rw [hg, hok]
   cases ok <;> cases decide (prn g = s) <;> rfl
  rw [e]
  unfold parA parN
  cases parOk s
  ·exact ⟨fun _ => ⟨rfl, rfl⟩, fun h => Bool.noConfusion h⟩
  ·exact ⟨fun h => Bool.noConfusion h, fun _ => ⟨hg, rfl⟩⟩
 refine ⟨hs, fun h => ⟨hs, fun _ => b16_l (six_b s), fun h2 => ?_, fun h2 => ?_⟩, fun h => ⟨fun _ => b16_l (four_b s), fun h2 => ?_, fun h2 => ?_⟩⟩
 ·have h : (four s).2 = false := by cases e : (four s).2 with | false => rfl | true => rw [e] at h; cases h
  obtain ⟨e1, e2⟩ := (key (six s).1 (if_neg (by rw [h]; decide)) (six s).2 (by rw [h]; rfl)).1 h2
  rw [e1, e2]
  and_intros <;> first | rfl | trivial
 ·have h : (four s).2 = false := by cases e : (four s).2 with | false => rfl | true => rw [e] at h; cases h
  obtain ⟨e1, e2⟩ := (key (six s).1 (if_neg (by rw [h]; decide)) (six s).2 (by rw [h]; rfl)).2 h2
  rw [e1, e2]
  and_intros <;> first | rfl | trivial
 ·have h : (four s).2 = true := by cases e : (four s).2 with | true => rfl | false => rw [e] at h; cases h
  obtain ⟨e1, e2⟩ := (key (four s).1 (if_pos h) (four s).2 (by rw [h]; rfl)).1 h2
  rw [e1, e2]
  and_intros <;> first | rfl | trivial
 ·have h : (four s).2 = true := by cases e : (four s).2 with | true => rfl | false => rw [e] at h; cases h
  obtain ⟨e1, e2⟩ := (key (four s).1 (if_pos h) (four s).2 (by rw [h]; rfl)).2 h2
  rw [e1, e2]
  and_intros <;> first | rfl | trivial
def parC : CT := C1 dStr (fun s => [s.size ≤ 1000000]) fun s => .tup [adr (parA s), XI (parN s)]
theorem pa_ok : CTok Tryz.prog 23 parC := C1_ok cxq_ok Tryz.func23 rfl (by decide) dStr_eq.ok (by kernel_rfl) (fun _ => rfl) fun s hc => exv (paV_eq s) (pa_v s (hc _ (by simp)))
end Go.Proofs.YtkjcoehblekpdaaGreatDoorAv
namespace Go.Proofs.YtkjcoehblekpdaaGreatDoorAv
open Go Go.RowKit
theorem app_dt (a b : ByteArray) : (a ++ b).data.toList = a.data.toList ++ b.data.toList := by
 rw [ByteArray.data_append, Array.toList_append]
end Go.Proofs.YtkjcoehblekpdaaGreatDoorAv
namespace Go.Proofs.YtkjcoehblekpdaaGreatDoorAv
open Go Go.RowKit
theorem sp_no (c : UInt8) : ∀ x : List UInt8, c ∉ x → split1 c x = [x]
 | [], _ => rfl
 | b :: x, h => by
  have hb : b ≠ c := fun e => h (e ▸ List.mem_cons_self)
  unfold split1
  rw [if_neg hb, sp_no c x (fun h2 => h (List.mem_cons_of_mem _ h2))]
end Go.Proofs.YtkjcoehblekpdaaGreatDoorAv
namespace Go.Proofs.YtkjcoehblekpdaaGreatDoorAv
open Go Go.RowKit
theorem prn_four (a : Nat → Int) (h4 : is4 a = true) : (prn a).data.toList = (prF a 0).data.toList ++ 46 :: ((prF a 1).data.toList ++ 46 :: ((prF a 2).data.toList ++ 46 :: (prF a 3).data.toList)) := by
 unfold prn
 rw [if_pos h4]
 show Lib.join [(prF a 0).data.toList, (prF a 1).data.toList, (prF a 2).data.toList, (prF a 3).data.toList] [46] = _
 simp [Lib.join, List.intercalate]
theorem prn_size (a : Nat → Int) (ha : b16 a) : (prn a).size ≤ 64 := by
 cases h4 : is4 a with
 | true =>
  have s : ∀ j, j < 4 → (prF a j).data.toList.length ≤ 3 := fun j hj => by
   rw [← size_data]
   have h := ha (12 + j) (by omega)
   have := itoaB_byte ⟨(a (12 + j)).toNat, by omega⟩
   rw [show (((⟨(a (12 + j)).toNat, by omega⟩ : Fin 256).val : Nat) : Int) = a (12 + j) by show (((a (12 + j)).toNat : Nat) : Int) = _; omega] at this
   exact this
  have h0 := s 0 (by omega)
  have h1 := s 1 (by omega)
  have h2 := s 2 (by omega)
  have h3 := s 3 (by omega)
  rw [size_data, prn_four a h4]
  simp only [List.length_append, List.length_cons]
  omega
 | false =>
  unfold prn
  rw [if_neg (by rw [h4]; decide)]
  exact prT_size a _ _ 8
end Go.Proofs.YtkjcoehblekpdaaGreatDoorAv
namespace Go.Proofs.YtkjcoehblekpdaaGreatDoorAv
open Go Go.RowKit
structure A16 where
 x0 : Int
 x1 : Int
 x2 : Int
 x3 : Int
 x4 : Int
 x5 : Int
 x6 : Int
 x7 : Int
 x8 : Int
 x9 : Int
 x10 : Int
 x11 : Int
 x12 : Int
 x13 : Int
 x14 : Int
 x15 : Int
def A16.f (a : A16) : Nat → Int := fun i => [a.x0, a.x1, a.x2, a.x3, a.x4, a.x5, a.x6, a.x7, a.x8, a.x9, a.x10, a.x11, a.x12, a.x13, a.x14, a.x15].getD i 0
def mk16 (g : Nat → Int) : A16 := ⟨g 0, g 1, g 2, g 3, g 4, g 5, g 6, g 7, g 8, g 9, g 10, g 11, g 12, g 13, g 14, g 15⟩
structure Hst where
 a : A16
 q : Sq ByteArray
def a16X (a : A16) : List XV := [X8 a.x0, X8 a.x1, X8 a.x2, X8 a.x3, X8 a.x4, X8 a.x5, X8 a.x6, X8 a.x7, X8 a.x8, X8 a.x9, X8 a.x10, X8 a.x11, X8 a.x12, X8 a.x13, X8 a.x14, X8 a.x15]
def hostX (h : Hst) : List XV := [X8 h.a.x0, X8 h.a.x1, X8 h.a.x2, X8 h.a.x3, X8 h.a.x4, X8 h.a.x5, X8 h.a.x6, X8 h.a.x7, X8 h.a.x8, X8 h.a.x9, X8 h.a.x10, X8 h.a.x11, X8 h.a.x12, X8 h.a.x13, X8 h.a.x14, X8 h.a.x15, .fz h.q.n 1 fun j => [XT (h.q.g j)]]
def dH : Hst := ⟨⟨0, 0, 0, 0, 0, 0, 0, 0, 0, 0, 0, 0, 0, 0, 0, 0⟩, ⟨0, fun _ => ⟨#[]⟩⟩⟩
def lenH (l : List Hst) : Nat := l.length
def getH (l : List Hst) (i : Nat) : Hst := l.getD i dH
def hostsL (l : List Hst) : XV := .fz (lenH l) 17 fun i => hostX (getH l i)
def oksN (w : List ByteArray) : Nat → Bool
 | 0 => true
 | i + 1 => oksN w i && decide ((toA (w.getD (i + 1) ⟨#[]⟩)).2 = 0)
def nmF (w : List ByteArray) (j : Nat) : ByteArray := (toA (w.getD (j + 1) ⟨#[]⟩)).1
def lnH (w : List ByteArray) : Hst := ⟨mk16 (parA (w.getD 0 ⟨#[]⟩)), ⟨w.length - 1, nmF w⟩⟩
def lnOk (w : List ByteArray) : Bool := decide (2 ≤ w.length) && (decide (parN (w.getD 0 ⟨#[]⟩) = 0) && oksN w (w.length - 1))
def putH (o : List Hst) (w : List ByteArray) : List Hst := if lenH o ≠ 64 ∧ lnOk w = true then o ++ [lnH w] else o
def prsN (l : List ByteArray) : Nat → List Hst
 | 0 => []
 | i + 1 => putH (prsN l i) (words (l.getD i ⟨#[]⟩))
def linesS (s : ByteArray) : List ByteArray := splitS s ⟨#[10]⟩
def prsH (s : ByteArray) : List Hst := prsN (linesS s) (linesS s).length
def wdN (l : List ByteArray) (i : Nat) : List ByteArray := words (l.getD i ⟨#[]⟩)
def cxy : Cx := { cx0 with C := [(21, splitC), (22, fieldsC), (23, parC), (24, toAC)] }
def prsR (l : List ByteArray) (i : Nat) : Nat × XRow := (0, .vec 30 true (lenH (prsN l i)) 17 fun j => hostX (getH (prsN l i) j))
def prsI (l : List ByteArray) : Inv where
 σ := IL
 S := fun x => ⟨[(3, .sl 0 17 0 (lenH (prsN l x.i))), (15, strsL l), (16, XI l.length), (17, XI x.i)], [prsR l x.i], 1, false, []⟩
 inv := fun x => x.i ≤ l.length
 μ := fun x => l.length - x.i
def prsJ (l : List ByteArray) (p : IL) : Inv where
 σ := IL
 S := fun x => ⟨[(3, .sl 0 17 0 (lenH (prsN l p.i))), (9, .ptr 2 0 0 0), (15, strsL l), (16, XI l.length), (17, XI p.i), (43, .fz ((wdN l p.i).length - 1) 1 fun j => [XT ((wdN l p.i).getD (j + 1) ⟨#[]⟩)]), (44, XI ((wdN l p.i).length - 1 : Nat)), (45, XI x.i)],
  [prsR l p.i, (2, .one 30 true (a16X (mk16 (parA ((wdN l p.i).getD 0 ⟨#[]⟩))) ++ [.sl 3 1 0 x.i])), (3, .vec 9 true x.i 1 fun j => [XT (nmF (wdN l p.i) j)])], 4, false, []⟩
 inv := fun x => x.i ≤ (wdN l p.i).length - 1 ∧ p.i < l.length ∧ lenH (prsN l p.i) ≠ 64 ∧ 2 ≤ (wdN l p.i).length ∧ parN ((wdN l p.i).getD 0 ⟨#[]⟩) = 0 ∧ oksN (wdN l p.i) x.i = true
 μ := fun x => (wdN l p.i).length - 1 - x.i
def prsE (s : ByteArray) : Env := { loops := [(0, prsI (linesS s))], loopsP := [(2, ⟨IL, prsJ (linesS s)⟩)], own := [(2, [(3, 30, 17)]), (10, [(9, 9, 1)])], frzc := [(17, [(9, 16)])] }
def prsV_a (s : ByteArray) :=
 (splitS s ⟨#[10]⟩)
def prsV_b (s : ByteArray) (p : { α := IL, J := prsJ (linesS s) : InvP }.α) :=
 ((wdN (prsV_a s) p.i).getD 0 ⟨#[]⟩)
def prsV_c (s : ByteArray) (x : IL) :=
 ((words ((prsV_a s).getD (↑x.i : Int).toNat ⟨#[]⟩)).getD ((0 : Nat)) ⟨#[]⟩)
def prsV_d (s : ByteArray) :=
 ((XV.fz (prsV_a s).length 1 fun (i : Nat) => [XT ((prsV_a s).getD i ⟨#[]⟩)]) = XV.fz (prsV_a s).length 1 fun (i : Nat) => [XT ((prsV_a s).getD i ⟨#[]⟩)])
def prsV_e (s : ByteArray) (x : IL) :=
 (↑(words ((prsV_a s).getD (↑x.i : Int).toNat ⟨#[]⟩)).length : Int)
def prsV_f :=
 ((30 : TypeId) = (30 : TypeId) ∧ true = true ∧ (17 : Nat) = (17 : Nat))
def prsV (s : ByteArray) : Prop :=
 s.size < (4294967281 : Nat) ∧ (1 : Nat) ≤ (1 : Nat) ∧ (∃ (x : (prsI (linesS s)).σ), x.i.le (prsV_a s).length ∧ true = true ∧ XV.sl 0 17 0 0 = XV.sl 0 17 0 (lenH (prsN (prsV_a s) x.i)) ∧ (prsV_d s) ∧ (↑(prsV_a s).length : Int) = (↑(prsV_a s).length : Int) ∧ (0 : Int) = (↑x.i : Int) ∧ (((30 : Nat) = (30 : TypeId) ∧ true = true ∧ (17 : Nat) = (17 : Nat)) ∧ (0 : Nat) = lenH (prsN (prsV_a s) x.i) ∧ ∀ (j : Nat), j < (0 : Nat) → [] = (hostX (getH (prsN (prsV_a s) x.i) j))) ∧ True) ∧ ∀ (x : IL), x.i.le (prsV_a s).length → (decide ((↑x.i : Int) < (↑(prsV_a s).length : Int)) = true → (0 : Int) ≤ (↑x.i : Int) ∧ (↑x.i : Int) < (↑(prsV_a s).length : Int) ∧ ((prsV_a s).getD (↑x.i : Int).toNat ⟨#[]⟩).size ≤ (1000000 : Nat) ∧ ((decide ((prsV_e s x) < (2 : Int)) || (↑(lenH (prsN (prsV_a s) x.i)) : Int) == (64 : Int)) = true → in64 ((↑x.i : Int) + (1 : Int)) ∧ ∃ (x' : (prsI (linesS s)).σ), x'.i.le (prsV_a s).length ∧ (prsV_a s).length - x'.i < (prsV_a s).length - x.i ∧ true = true ∧ XV.sl 0 17 0 (lenH (prsN (prsV_a s) x.i)) = XV.sl 0 17 0 (lenH (prsN (prsV_a s) x'.i)) ∧ (prsV_d s) ∧ (↑(prsV_a s).length : Int) = (↑(prsV_a s).length : Int) ∧ (↑x.i : Int) + (1 : Int) = (↑x'.i : Int) ∧ (prsV_f ∧ lenH (prsN (prsV_a s) x.i) = lenH (prsN (prsV_a s) x'.i) ∧ ∀ (j : Nat), j < lenH (prsN (prsV_a s) x.i) → (hostX (getH (prsN (prsV_a s) x.i) j)) = (hostX (getH (prsN (prsV_a s) x'.i) j))) ∧ True) ∧ ((decide ((prsV_e s x) < (2 : Int)) || (↑(lenH (prsN (prsV_a s) x.i)) : Int) == (64 : Int)) = false → (0 : Int) ≤ (0 : Int) ∧ (0 : Int) < (prsV_e s x) ∧ (prsV_c s x).size ≤ (1000000 : Nat) ∧ ((parN (prsV_c s x) != (0 : Int)) = true → in64 ((↑x.i : Int) + (1 : Int)) ∧ ∃ (x' : (prsI (linesS s)).σ), x'.i.le (prsV_a s).length ∧ (prsV_a s).length - x'.i < (prsV_a s).length - x.i ∧ true = true ∧ XV.sl 0 17 0 (lenH (prsN (prsV_a s) x.i)) = XV.sl 0 17 0 (lenH (prsN (prsV_a s) x'.i)) ∧ (prsV_d s) ∧ (↑(prsV_a s).length : Int) = (↑(prsV_a s).length : Int) ∧ (↑x.i : Int) + (1 : Int) = (↑x'.i : Int) ∧ (prsV_f ∧ lenH (prsN (prsV_a s) x.i) = lenH (prsN (prsV_a s) x'.i) ∧ ∀ (j : Nat), j < lenH (prsN (prsV_a s) x.i) → (hostX (getH (prsN (prsV_a s) x.i) j)) = (hostX (getH (prsN (prsV_a s) x'.i) j))) ∧ True) ∧ ((parN (prsV_c s x) != (0 : Int)) = false → (0 : Int) ≤ (1 : Int) ∧ (1 : Int) ≤ (prsV_e s x) ∧ (prsV_e s x) ≤ (prsV_e s x) ∧ ∃ (p : { α := IL, J := prsJ (linesS s) : InvP }.α), (∃ (x_1 : ({ α := IL, J := prsJ (linesS s) : InvP }.J p).σ), (x_1.i ≤ (wdN (prsV_a s) p.i).length - (1 : Nat) ∧ p.i < (prsV_a s).length ∧ lenH (prsN (prsV_a s) p.i) ≠ (64 : Nat) ∧ (2 : Nat) ≤ (wdN (prsV_a s) p.i).length ∧ parN (prsV_b s p) = (0 : Int) ∧ oksN (wdN (prsV_a s) p.i) x_1.i = true) ∧ true = true ∧ XV.sl 0 17 0 (lenH (prsN (prsV_a s) x.i)) = XV.sl 0 17 0 (lenH (prsN (prsV_a s) p.i)) ∧ XV.ptr ((1 : Nat) + (1 : Nat)) 0 0 0 = XV.ptr 2 0 0 0 ∧ (prsV_d s) ∧ (↑(prsV_a s).length : Int) = (↑(prsV_a s).length : Int) ∧ (↑x.i : Int) = (↑p.i : Int) ∧ ((XV.fz ((prsV_e s x) - (1 : Int)).toNat 1 fun (j : Nat) => [XT ((words ((prsV_a s).getD (↑x.i : Int).toNat ⟨#[]⟩)).getD ((1 : Nat) + j) ⟨#[]⟩)]) = XV.fz ((wdN (prsV_a s) p.i).length - (1 : Nat)) 1 fun (j : Nat) => [XT ((wdN (prsV_a s) p.i).getD (j + (1 : Nat)) ⟨#[]⟩)]) ∧ (↑((prsV_e s x) - (1 : Int)).toNat : Int) = (↑((wdN (prsV_a s) p.i).length - (1 : Nat)) : Int) ∧ (0 : Int) = (↑x_1.i : Int) ∧ (prsV_f ∧ lenH (prsN (prsV_a s) x.i) = lenH (prsN (prsV_a s) p.i) ∧ ∀ (j : Nat), j < lenH (prsN (prsV_a s) x.i) → (hostX (getH (prsN (prsV_a s) x.i) j)) = (hostX (getH (prsN (prsV_a s) p.i) j))) ∧ (((30 : Nat) = (30 : TypeId) ∧ true = true) ∧ parA (prsV_c s x) 0 = parA (prsV_b s p) 0 ∧ parA (prsV_c s x) 1 = parA (prsV_b s p) 1 ∧ parA (prsV_c s x) 2 = parA (prsV_b s p) 2 ∧ parA (prsV_c s x) 3 = parA (prsV_b s p) 3 ∧ parA (prsV_c s x) 4 = parA (prsV_b s p) 4 ∧ parA (prsV_c s x) 5 = parA (prsV_b s p) 5 ∧ parA (prsV_c s x) 6 = parA (prsV_b s p) 6 ∧ parA (prsV_c s x) 7 = parA (prsV_b s p) 7 ∧ parA (prsV_c s x) 8 = parA (prsV_b s p) 8 ∧ parA (prsV_c s x) 9 = parA (prsV_b s p) 9 ∧ parA (prsV_c s x) 10 = parA (prsV_b s p) 10 ∧ parA (prsV_c s x) 11 = parA (prsV_b s p) 11 ∧ parA (prsV_c s x) 12 = parA (prsV_b s p) 12 ∧ parA (prsV_c s x) 13 = parA (prsV_b s p) 13 ∧ parA (prsV_c s x) 14 = parA (prsV_b s p) 14 ∧ parA (prsV_c s x) 15 = parA (prsV_b s p) 15 ∧ XV.sl ((1 : Nat) + (1 : Nat) + (1 : Nat)) 1 0 0 = XV.sl 3 1 0 x_1.i ∧ True) ∧ (((9 : Nat) = (9 : TypeId) ∧ true = true ∧ (1 : Nat) = (1 : Nat)) ∧ (0 : Nat) = x_1.i ∧ ∀ (j : Nat), j < (0 : Nat) → [] = [XT (nmF (wdN (prsV_a s) p.i) j)]) ∧ True) ∧ ∀ (x_1 : IL), x_1.i ≤ (wdN (prsV_a s) p.i).length - (1 : Nat) ∧ p.i < (prsV_a s).length ∧ lenH (prsN (prsV_a s) p.i) ≠ (64 : Nat) ∧ (2 : Nat) ≤ (wdN (prsV_a s) p.i).length ∧ parN (prsV_b s p) = (0 : Int) ∧ oksN (wdN (prsV_a s) p.i) x_1.i = true → (decide ((↑x_1.i : Int) < (↑((wdN (prsV_a s) p.i).length - (1 : Nat)) : Int)) = true → (0 : Int) ≤ (↑x_1.i : Int) ∧ (↑x_1.i : Int) < (↑((wdN (prsV_a s) p.i).length - (1 : Nat)) : Int) ∧ (((toA ((wdN (prsV_a s) p.i).getD ((↑x_1.i : Int).toNat + (1 : Nat)) ⟨#[]⟩)).snd != (0 : Int)) = true → in64 ((↑p.i : Int) + (1 : Int)) ∧ ∃ (x' : (prsI (linesS s)).σ), x'.i.le (prsV_a s).length ∧ (prsV_a s).length - x'.i < (prsV_a s).length - x.i ∧ true = true ∧ XV.sl 0 17 0 (lenH (prsN (prsV_a s) p.i)) = XV.sl 0 17 0 (lenH (prsN (prsV_a s) x'.i)) ∧ (prsV_d s) ∧ (↑(prsV_a s).length : Int) = (↑(prsV_a s).length : Int) ∧ (↑p.i : Int) + (1 : Int) = (↑x'.i : Int) ∧ (prsV_f ∧ lenH (prsN (prsV_a s) p.i) = lenH (prsN (prsV_a s) x'.i) ∧ ∀ (j : Nat), j < lenH (prsN (prsV_a s) p.i) → (hostX (getH (prsN (prsV_a s) p.i) j)) = (hostX (getH (prsN (prsV_a s) x'.i) j))) ∧ True) ∧ (((toA ((wdN (prsV_a s) p.i).getD ((↑x_1.i : Int).toNat + (1 : Nat)) ⟨#[]⟩)).snd != (0 : Int)) = false → x_1.i = x_1.i ∧ (x_1.i + (1 : Nat)) * (16 : Nat) ≤ (140737488355328 : Nat) ∧ x_1.i + (1 : Nat) ≤ (140737488355328 : Nat) ∧ in64 ((↑x_1.i : Int) + (1 : Int)) ∧ ∃ (x' : ({ α := IL, J := prsJ (linesS s) : InvP }.J p).σ), (x'.i ≤ (wdN (prsV_a s) p.i).length - (1 : Nat) ∧ p.i < (prsV_a s).length ∧ lenH (prsN (prsV_a s) p.i) ≠ (64 : Nat) ∧ (2 : Nat) ≤ (wdN (prsV_a s) p.i).length ∧ parN (prsV_b s p) = (0 : Int) ∧ oksN (wdN (prsV_a s) p.i) x'.i = true) ∧ (wdN (prsV_a s) p.i).length - (1 : Nat) - x'.i < (wdN (prsV_a s) p.i).length - (1 : Nat) - x_1.i ∧ true = true ∧ XV.sl 0 17 0 (lenH (prsN (prsV_a s) p.i)) = XV.sl 0 17 0 (lenH (prsN (prsV_a s) p.i)) ∧ XV.ptr 2 0 0 0 = XV.ptr 2 0 0 0 ∧ (prsV_d s) ∧ (↑(prsV_a s).length : Int) = (↑(prsV_a s).length : Int) ∧ (↑p.i : Int) = (↑p.i : Int) ∧ ((XV.fz ((wdN (prsV_a s) p.i).length - (1 : Nat)) 1 fun (j : Nat) => [XT ((wdN (prsV_a s) p.i).getD (j + (1 : Nat)) ⟨#[]⟩)]) = XV.fz ((wdN (prsV_a s) p.i).length - (1 : Nat)) 1 fun (j : Nat) => [XT ((wdN (prsV_a s) p.i).getD (j + (1 : Nat)) ⟨#[]⟩)]) ∧ (↑((wdN (prsV_a s) p.i).length - (1 : Nat)) : Int) = (↑((wdN (prsV_a s) p.i).length - (1 : Nat)) : Int) ∧ (↑x_1.i : Int) + (1 : Int) = (↑x'.i : Int) ∧ (prsV_f ∧ lenH (prsN (prsV_a s) p.i) = lenH (prsN (prsV_a s) p.i) ∧ ∀ (j : Nat), j < lenH (prsN (prsV_a s) p.i) → (hostX (getH (prsN (prsV_a s) p.i) j)) = (hostX (getH (prsN (prsV_a s) p.i) j))) ∧ (((30 : TypeId) = (30 : TypeId) ∧ true = true) ∧ parA (prsV_b s p) 0 = parA (prsV_b s p) 0 ∧ parA (prsV_b s p) 1 = parA (prsV_b s p) 1 ∧ parA (prsV_b s p) 2 = parA (prsV_b s p) 2 ∧ parA (prsV_b s p) 3 = parA (prsV_b s p) 3 ∧ parA (prsV_b s p) 4 = parA (prsV_b s p) 4 ∧ parA (prsV_b s p) 5 = parA (prsV_b s p) 5 ∧ parA (prsV_b s p) 6 = parA (prsV_b s p) 6 ∧ parA (prsV_b s p) 7 = parA (prsV_b s p) 7 ∧ parA (prsV_b s p) 8 = parA (prsV_b s p) 8 ∧ parA (prsV_b s p) 9 = parA (prsV_b s p) 9 ∧ parA (prsV_b s p) 10 = parA (prsV_b s p) 10 ∧ parA (prsV_b s p) 11 = parA (prsV_b s p) 11 ∧ parA (prsV_b s p) 12 = parA (prsV_b s p) 12 ∧ parA (prsV_b s p) 13 = parA (prsV_b s p) 13 ∧ parA (prsV_b s p) 14 = parA (prsV_b s p) 14 ∧ parA (prsV_b s p) 15 = parA (prsV_b s p) 15 ∧ XV.sl 3 1 0 (x_1.i + (1 : Nat)) = XV.sl 3 1 0 x'.i ∧ True) ∧ (((9 : TypeId) = (9 : TypeId) ∧ true = true ∧ (1 : Nat) = (1 : Nat)) ∧ x_1.i + (1 : Nat) = x'.i ∧ ∀ (j : Nat), j < x_1.i + (1 : Nat) → [XT (bif j.blt x_1.i then nmF (wdN (prsV_a s) p.i) j else (toA ((wdN (prsV_a s) p.i).getD ((↑x_1.i : Int).toNat + (1 : Nat)) ⟨#[]⟩)).fst)] = [XT (nmF (wdN (prsV_a s) p.i) j)]) ∧ True)) ∧ (decide ((↑x_1.i : Int) < (↑((wdN (prsV_a s) p.i).length - (1 : Nat)) : Int)) = false → x_1.i = x_1.i ∧ lenH (prsN (prsV_a s) p.i) = lenH (prsN (prsV_a s) p.i) ∧ (lenH (prsN (prsV_a s) p.i) + (1 : Nat)) * (40 : Nat) ≤ (140737488355328 : Nat) ∧ lenH (prsN (prsV_a s) p.i) + (1 : Nat) ≤ (140737488355328 : Nat) ∧ in64 ((↑p.i : Int) + (1 : Int)) ∧ ∃ (x' : (prsI (linesS s)).σ), x'.i.le (prsV_a s).length ∧ (prsV_a s).length - x'.i < (prsV_a s).length - x.i ∧ true = true ∧ XV.sl 0 17 0 (lenH (prsN (prsV_a s) p.i) + (1 : Nat)) = XV.sl 0 17 0 (lenH (prsN (prsV_a s) x'.i)) ∧ (prsV_d s) ∧ (↑(prsV_a s).length : Int) = (↑(prsV_a s).length : Int) ∧ (↑p.i : Int) + (1 : Int) = (↑x'.i : Int) ∧ (prsV_f ∧ lenH (prsN (prsV_a s) p.i) + (1 : Nat) = lenH (prsN (prsV_a s) x'.i) ∧ ∀ (j : Nat), j < lenH (prsN (prsV_a s) p.i) + (1 : Nat) → [X8 (bif j.blt (lenH (prsN (prsV_a s) p.i)) then (getH (prsN (prsV_a s) p.i) j).a.x0 else parA (prsV_b s p) 0), X8 (bif j.blt (lenH (prsN (prsV_a s) p.i)) then (getH (prsN (prsV_a s) p.i) j).a.x1 else parA (prsV_b s p) 1), X8 (bif j.blt (lenH (prsN (prsV_a s) p.i)) then (getH (prsN (prsV_a s) p.i) j).a.x2 else parA (prsV_b s p) 2), X8 (bif j.blt (lenH (prsN (prsV_a s) p.i)) then (getH (prsN (prsV_a s) p.i) j).a.x3 else parA (prsV_b s p) 3), X8 (bif j.blt (lenH (prsN (prsV_a s) p.i)) then (getH (prsN (prsV_a s) p.i) j).a.x4 else parA (prsV_b s p) 4), X8 (bif j.blt (lenH (prsN (prsV_a s) p.i)) then (getH (prsN (prsV_a s) p.i) j).a.x5 else parA (prsV_b s p) 5), X8 (bif j.blt (lenH (prsN (prsV_a s) p.i)) then (getH (prsN (prsV_a s) p.i) j).a.x6 else parA (prsV_b s p) 6), X8 (bif j.blt (lenH (prsN (prsV_a s) p.i)) then (getH (prsN (prsV_a s) p.i) j).a.x7 else parA (prsV_b s p) 7), X8 (bif j.blt (lenH (prsN (prsV_a s) p.i)) then (getH (prsN (prsV_a s) p.i) j).a.x8 else parA (prsV_b s p) 8), X8 (bif j.blt (lenH (prsN (prsV_a s) p.i)) then (getH (prsN (prsV_a s) p.i) j).a.x9 else parA (prsV_b s p) 9), X8 (bif j.blt (lenH (prsN (prsV_a s) p.i)) then (getH (prsN (prsV_a s) p.i) j).a.x10 else parA (prsV_b s p) 10), X8 (bif j.blt (lenH (prsN (prsV_a s) p.i)) then (getH (prsN (prsV_a s) p.i) j).a.x11 else parA (prsV_b s p) 11), X8 (bif j.blt (lenH (prsN (prsV_a s) p.i)) then (getH (prsN (prsV_a s) p.i) j).a.x12 else parA (prsV_b s p) 12), X8 (bif j.blt (lenH (prsN (prsV_a s) p.i)) then (getH (prsN (prsV_a s) p.i) j).a.x13 else parA (prsV_b s p) 13), X8 (bif j.blt (lenH (prsN (prsV_a s) p.i)) then (getH (prsN (prsV_a s) p.i) j).a.x14 else parA (prsV_b s p) 14), X8 (bif j.blt (lenH (prsN (prsV_a s) p.i)) then (getH (prsN (prsV_a s) p.i) j).a.x15 else parA (prsV_b s p) 15), XV.fz (bif j.blt (lenH (prsN (prsV_a s) p.i)) then (getH (prsN (prsV_a s) p.i) j).q.n else x_1.i) 1 fun (j_1 : Nat) => bif j.blt (lenH (prsN (prsV_a s) p.i)) then [XT ((getH (prsN (prsV_a s) p.i) j).q.g j_1)] else [XT (nmF (wdN (prsV_a s) p.i) j_1)]] = (hostX (getH (prsN (prsV_a s) x'.i) j))) ∧ True)))) ∧ (decide ((↑x.i : Int) < (↑(prsV_a s).length : Int)) = false → ((17 : Nat) = (17 : Nat) ∧ (17 : Nat) = (17 : Nat)) ∧ lenH (prsN (prsV_a s) x.i) = lenH (prsN (prsV_a s) x.i) ∧ lenH (prsN (prsV_a s) x.i) = lenH (prsH s) ∧ ∀ (j : Nat), j < lenH (prsN (prsV_a s) x.i) → (hostX (getH (prsN (prsV_a s) x.i) j)) = (hostX (getH (prsH s) j)))
theorem prsV_eq (s : ByteArray) : prsV s = (funC cxy Tryz.f11 (mkSc (prsE s) (bodyOf Tryz.f11)) [XT s] (hostsL (prsH s))) := by kernel_rfl
theorem fz_eq {n m sz : Nat} {f g : Nat → List XV} (h : n = m) (k : ∀ j, f j = g j) : XV.fz n sz f = XV.fz m sz g := by rw [h, funext k]
theorem splitS_each (s : ByteArray) (c : UInt8) (x : ByteArray) (h : x ∈ splitS s ⟨#[c]⟩) : x.size ≤ s.size := by
 rw [splitS_one] at h
 obtain ⟨y, hy, rfl⟩ := List.mem_map.1 h
 rw [mk8_size, size_data s]
 exact split1_each c _ y hy
theorem getD_all {α : Type} {l : List α} {d : α} {P : α → Prop} (hd : P d) (h : ∀ x ∈ l, P x) (i : Nat) : P (l.getD i d) := by
 rw [List.getD_eq_getElem?_getD]
 cases e : l[i]? with
 | none => exact hd
 | some x => exact h x (List.mem_of_getElem? e)
theorem words_each (s x : ByteArray) (h : x ∈ words s) : x.size ≤ s.size := by
 unfold words at h
 have h1 := splitS_each _ 32 x (List.mem_filter.1 h).1
 have h2 := cutB_size s 35
 have h3 : (replB (cutB s ⟨#[35]⟩).1 ⟨#[9]⟩ ⟨#[32]⟩).size ≤ 1 * (cutB s ⟨#[35]⟩).1.size := replB_size _ ⟨#[32]⟩ 9 1 (by decide) (by decide)
 omega
theorem words_len (s : ByteArray) : (words s).length ≤ s.size + 1 := by
 unfold words wPieces
 have h1 := List.length_filter_le isNE (splitS (replB (cutB s ⟨#[35]⟩).1 ⟨#[9]⟩ ⟨#[32]⟩) ⟨#[32]⟩)
 have h4 := splitS_len (replB (cutB s ⟨#[35]⟩).1 ⟨#[9]⟩ ⟨#[32]⟩) 32
 have h2 := cutB_size s 35
 have h3 : (replB (cutB s ⟨#[35]⟩).1 ⟨#[9]⟩ ⟨#[32]⟩).size ≤ 1 * (cutB s ⟨#[35]⟩).1.size := replB_size _ ⟨#[32]⟩ 9 1 (by decide) (by decide)
 omega
theorem oksN_le (w : List ByteArray) : ∀ n j, j ≤ n → oksN w n = true → oksN w j = true
  | 0, j, h, k => by obtain rfl : j = 0 := by omega
                     exact k
  | n + 1, j, h, k => by
    by_cases e : j = n + 1
    · rw [e]; exact k
    · rw [oksN, Bool.and_eq_true] at k
      exact oksN_le w n j (by omega) k.1
theorem lenH_prsN (l : List ByteArray) : ∀ i, lenH (prsN l i) ≤ 64
 | 0 => Nat.zero_le _
 | i + 1 => by
  have ih := lenH_prsN l i
  unfold prsN putH
  split
  ·rename_i h
   unfold lenH at *
   rw [List.length_append, List.length_singleton]
   omega
  ·exact ih
theorem putH_no {o : List Hst} {w : List ByteArray} (h : lenH o = 64 ∨ lnOk w = false) : putH o w = o := if_neg fun k => by
 rcases h with h | h
 ·exact k.1 h
 ·rw [h] at k; exact Bool.noConfusion k.2
theorem getH_app (o : List Hst) (h : Hst) (j : Nat) (hj : j < lenH o + 1) : getH (o ++ [h]) j = if j < lenH o then getH o j else h := by
 unfold getH lenH at *
 split
 ·rename_i k
  rw [List.getD_eq_getElem?_getD, List.getD_eq_getElem?_getD, List.getElem?_append_left k]
 ·rename_i k
  rw [List.getD_eq_getElem?_getD, List.getElem?_append_right (by omega), show j - o.length = 0 by omega]
  rfl
set_option maxHeartbeats 2000000 in
theorem prs_v (s : ByteArray) (hs : s.size ≤ 1000000000) (hsz : ∀ i, ((linesS s).getD i ⟨#[]⟩).size ≤ 1000000) : prsV s := by
 unfold prsV prsV_f prsV_e prsV_d prsV_c prsV_b prsV_a
 have hll := splitS_len s 10
 have hsz : ∀ i, ((splitS s ⟨#[10]⟩).getD i ⟨#[]⟩).size ≤ 1000000 := hsz
 have hP : prsH s = prsN (splitS s ⟨#[10]⟩) (splitS s ⟨#[10]⟩).length := rfl
 have hw : ∀ i, wdN (splitS s ⟨#[10]⟩) i = words ((splitS s ⟨#[10]⟩).getD i ⟨#[]⟩) := fun _ => rfl
 rw [hP]
 refine ⟨by omega, by decide, ⟨⟨0⟩, Nat.zero_le _, rfl, rfl, rfl, rfl, rfl, ⟨⟨rfl, rfl, rfl⟩, rfl, fun j hj => absurd hj (Nat.not_lt_zero _)⟩, trivial⟩, ?_⟩
 rintro ⟨i⟩ hi
 have hi : i ≤ (splitS s ⟨#[10]⟩).length := hi
 dsimp only
 refine ⟨fun k => ?_, fun k => ?_⟩
 ·have k : (i : Int) < (splitS s ⟨#[10]⟩).length := of_decide_eq_true k
  rw [Int.toNat_natCast]
  have hp : prsN (splitS s ⟨#[10]⟩) (i + 1) = putH (prsN (splitS s ⟨#[10]⟩) i) (words ((splitS s ⟨#[10]⟩).getD i ⟨#[]⟩)) := rfl
  have h64 := lenH_prsN (splitS s ⟨#[10]⟩) i
  have hwl := words_len ((splitS s ⟨#[10]⟩).getD i ⟨#[]⟩)
  have hsi := hsz i
  have stay : putH (prsN (splitS s ⟨#[10]⟩) i) (words ((splitS s ⟨#[10]⟩).getD i ⟨#[]⟩)) = prsN (splitS s ⟨#[10]⟩) i → ∃ (x' : (prsI (linesS s)).σ), (Nat.le x'.i (splitS s ⟨#[10]⟩).length) ∧ (splitS s ⟨#[10]⟩).length - x'.i < (splitS s ⟨#[10]⟩).length - i ∧ true = true ∧ XV.sl 0 17 0 (lenH (prsN (splitS s ⟨#[10]⟩) i)) = XV.sl 0 17 0 (lenH (prsN (splitS s ⟨#[10]⟩) x'.i)) ∧
    ((XV.fz (splitS s ⟨#[10]⟩).length 1 fun i => [XT ((splitS s ⟨#[10]⟩).getD i ⟨#[]⟩)]) = XV.fz (splitS s ⟨#[10]⟩).length 1 fun i => [XT ((splitS s ⟨#[10]⟩).getD i ⟨#[]⟩)]) ∧ ((splitS s ⟨#[10]⟩).length : Int) = ((splitS s ⟨#[10]⟩).length : Int) ∧ (i : Int) + 1 = (x'.i : Int) ∧
    (((30 : Nat) = (30 : TypeId) ∧ true = true ∧ (17 : Nat) = 17) ∧ lenH (prsN (splitS s ⟨#[10]⟩) i) = lenH (prsN (splitS s ⟨#[10]⟩) x'.i) ∧ ∀ j, j < lenH (prsN (splitS s ⟨#[10]⟩) i) → hostX (getH (prsN (splitS s ⟨#[10]⟩) i) j) = hostX (getH (prsN (splitS s ⟨#[10]⟩) x'.i) j)) ∧ True := fun e => by
   have e : prsN (splitS s ⟨#[10]⟩) (i + 1) = prsN (splitS s ⟨#[10]⟩) i := e
   exact ⟨⟨i + 1⟩, (show i + 1 ≤ (splitS s ⟨#[10]⟩).length by omega), (show (splitS s ⟨#[10]⟩).length - (i + 1) < (splitS s ⟨#[10]⟩).length - i by omega), rfl, congrArg (fun o => XV.sl 0 17 0 (lenH o)) e.symm, rfl, rfl, rfl, ⟨⟨rfl, rfl, rfl⟩, congrArg lenH e.symm, fun j _ => congrArg (fun o => hostX (getH o j)) e.symm⟩, trivial⟩
  refine ⟨by omega, k, by omega, fun h2 => ⟨by unfold in64; omega, stay (putH_no ?_)⟩, fun h2 => ?_⟩
  ·rw [Bool.or_eq_true, decide_eq_true_eq, beq_iff_eq] at h2
   rcases h2 with h2 | h2
   ·right
    unfold lnOk
    rw [decide_eq_false (by omega)]
    rfl
   ·left; omega
  rw [Bool.or_eq_false_iff, decide_eq_false_iff_not, beq_eq_false_iff_ne] at h2
  obtain ⟨h2, h3⟩ := h2
  have hw0 := words_each ((splitS s ⟨#[10]⟩).getD i ⟨#[]⟩)
  have hwz : ∀ j, ((words ((splitS s ⟨#[10]⟩).getD i ⟨#[]⟩)).getD j ⟨#[]⟩).size ≤ 1000000 := getD_all (P := fun x : ByteArray => x.size ≤ 1000000) (Nat.zero_le _) fun x hx => by have := hw0 x hx; omega
  refine ⟨by decide, by omega, by have := hwz 0; omega, fun h4 => ⟨by unfold in64; omega, stay (putH_no (.inr ?_))⟩, fun h4 => ?_⟩
  ·have h4 : parN ((words ((splitS s ⟨#[10]⟩).getD i ⟨#[]⟩)).getD 0 ⟨#[]⟩) ≠ 0 := by simpa using h4
   unfold lnOk
   rw [decide_eq_false h4, Bool.false_and, Bool.and_false]
  have h4 : parN ((words ((splitS s ⟨#[10]⟩).getD i ⟨#[]⟩)).getD 0 ⟨#[]⟩) = 0 := by simpa using h4
  refine ⟨by decide, by omega, by omega, ⟨i⟩, ⟨⟨0⟩, ⟨Nat.zero_le _, by show i < _; omega, by show lenH (prsN (splitS s ⟨#[10]⟩) i) ≠ 64; omega, by show 2 ≤ (words ((splitS s ⟨#[10]⟩).getD i ⟨#[]⟩)).length; omega, h4, rfl⟩, rfl, rfl, rfl, rfl, rfl, rfl, ?_, ?_, rfl, ⟨⟨rfl, rfl, rfl⟩, rfl, fun _ _ => rfl⟩, ⟨⟨rfl, rfl⟩, rfl, rfl, rfl, rfl, rfl, rfl, rfl, rfl, rfl, rfl, rfl, rfl, rfl, rfl, rfl, rfl, rfl, trivial⟩, ⟨⟨rfl, rfl, rfl⟩, rfl, fun j hj => absurd hj (Nat.not_lt_zero _)⟩, trivial⟩, ?_⟩
  ·show XV.fz _ 1 _ = XV.fz ((words ((splitS s ⟨#[10]⟩).getD i ⟨#[]⟩)).length - 1) 1 fun j => [XT ((words ((splitS s ⟨#[10]⟩).getD i ⟨#[]⟩)).getD (j + 1) ⟨#[]⟩)]
   exact fz_eq (by omega) fun j => congrArg (fun k => [XT ((words ((splitS s ⟨#[10]⟩).getD i ⟨#[]⟩)).getD k ⟨#[]⟩)]) (Nat.add_comm 1 j)
  ·show (((((words ((splitS s ⟨#[10]⟩).getD i ⟨#[]⟩)).length : Int) - 1).toNat : Nat) : Int) = (((words ((splitS s ⟨#[10]⟩).getD i ⟨#[]⟩)).length - 1 : Nat) : Int)
   omega
  rintro ⟨m⟩ ⟨hm, -, -, -, -, hok⟩
  dsimp only at hm hok ⊢
  rw [hw] at hm hok
  rw [hw]
  refine ⟨fun k2 => ?_, fun k2 => ?_⟩
  ·have k2 : (m : Int) < (((words ((splitS s ⟨#[10]⟩).getD i ⟨#[]⟩)).length - 1 : Nat) : Int) := of_decide_eq_true k2
   rw [Int.toNat_natCast]
   refine ⟨by omega, k2, fun h5 => ⟨by unfold in64; omega, stay (putH_no (.inr ?_))⟩, fun h5 => ?_⟩
   ·have h5 : (toA ((words ((splitS s ⟨#[10]⟩).getD i ⟨#[]⟩)).getD (m + 1) ⟨#[]⟩)).2 ≠ 0 := by simpa using h5
    unfold lnOk
    cases e : oksN (words ((splitS s ⟨#[10]⟩).getD i ⟨#[]⟩)) ((words ((splitS s ⟨#[10]⟩).getD i ⟨#[]⟩)).length - 1) with
    | false => rw [Bool.and_false, Bool.and_false]
    | true =>
     have := oksN_le _ _ (m + 1) (by omega) e
     rw [oksN, decide_eq_false h5, Bool.and_false] at this
     exact Bool.noConfusion this
   ·have h5 : (toA ((words ((splitS s ⟨#[10]⟩).getD i ⟨#[]⟩)).getD (m + 1) ⟨#[]⟩)).2 = 0 := by simpa using h5
    refine ⟨rfl, by omega, by omega, by unfold in64; omega, ⟨m + 1⟩, ⟨by show m + 1 ≤ (words ((splitS s ⟨#[10]⟩).getD i ⟨#[]⟩)).length - 1; omega, by show i < _; omega, by omega, by omega, h4, ?_⟩, by show (words ((splitS s ⟨#[10]⟩).getD i ⟨#[]⟩)).length - 1 - (m + 1) < _; omega, rfl, rfl, rfl, rfl, rfl, rfl, rfl, rfl, rfl, ⟨⟨rfl, rfl, rfl⟩, rfl, fun _ _ => rfl⟩, ⟨⟨rfl, rfl⟩, rfl, rfl, rfl, rfl, rfl, rfl, rfl, rfl, rfl, rfl, rfl, rfl, rfl, rfl, rfl, rfl, rfl, trivial⟩, ⟨⟨rfl, rfl, rfl⟩, rfl, fun j hj => ?_⟩, trivial⟩
    ·show oksN _ (m + 1) = true
     rw [oksN, hok, decide_eq_true h5]
     rfl
    ·refine congrArg (fun x => [XT x]) ?_
     rw [bltN]
     by_cases hjm : j < m
     ·rw [decide_eq_true hjm]; rfl
     ·rw [decide_eq_false hjm, show j = m by omega]; rfl
  ·have k2 : ¬ (m : Int) < (((words ((splitS s ⟨#[10]⟩).getD i ⟨#[]⟩)).length - 1 : Nat) : Int) := of_decide_eq_false k2
   obtain rfl : m = (words ((splitS s ⟨#[10]⟩).getD i ⟨#[]⟩)).length - 1 := by omega
   have e : prsN (splitS s ⟨#[10]⟩) (i + 1) = prsN (splitS s ⟨#[10]⟩) i ++ [lnH (words ((splitS s ⟨#[10]⟩).getD i ⟨#[]⟩))] := by
    rw [hp]
    refine if_pos ⟨by omega, ?_⟩
    unfold lnOk
    rw [decide_eq_true (by omega), decide_eq_true h4, hok]
    rfl
   have el : lenH (prsN (splitS s ⟨#[10]⟩) i) + 1 = lenH (prsN (splitS s ⟨#[10]⟩) (i + 1)) := by
    rw [e]
    unfold lenH
    rw [List.length_append, List.length_singleton]
   refine ⟨rfl, rfl, by omega, by omega, by unfold in64; omega, ⟨i + 1⟩, (show i + 1 ≤ (splitS s ⟨#[10]⟩).length by omega), (show (splitS s ⟨#[10]⟩).length - (i + 1) < (splitS s ⟨#[10]⟩).length - i by omega), rfl, congrArg (XV.sl 0 17 0) el, rfl, rfl, rfl, ⟨⟨rfl, rfl, rfl⟩, el, fun j hj => ?_⟩, trivial⟩
   show _ = hostX (getH (prsN (splitS s ⟨#[10]⟩) (i + 1)) j)
   rw [e, getH_app _ _ _ hj, bltN]
   by_cases hjl : j < lenH (prsN (splitS s ⟨#[10]⟩) i)
   ·rw [decide_eq_true hjl, if_pos hjl]; rfl
   ·rw [decide_eq_false hjl, if_neg hjl]; kernel_rfl
 ·have k : ¬ (i : Int) < (splitS s ⟨#[10]⟩).length := of_decide_eq_false k
  obtain rfl : i = (splitS s ⟨#[10]⟩).length := by omega
  exact ⟨⟨rfl, rfl⟩, rfl, rfl, fun _ _ => rfl⟩
def prsC : CT := C1 dStr (fun s => [s.size ≤ 1000000]) fun s => hostsL (prsH s)
theorem cxy_ok : cxy.ok Tryz.prog := (((cx0_ok.addC toA_ok).addC pa_ok).addC fld_ok).addC split_ok
theorem lines_each (s : ByteArray) (i : Nat) : ((linesS s).getD i ⟨#[]⟩).size ≤ s.size := getD_all (P := fun x : ByteArray => x.size ≤ s.size) (Nat.zero_le _) (fun x hx => splitS_each s 10 x hx) i
def prsC2 : CT := C1 dStr (fun s => [s.size ≤ 1000000000, ∀ i, ((linesS s).getD i ⟨#[]⟩).size ≤ 1000000]) fun s => hostsL (prsH s)
theorem prs_ok2 : CTok Tryz.prog 11 prsC2 := C1_ok cxy_ok Tryz.func11 rfl (by decide) dStr_eq.ok (by kernel_rfl) (fun _ => rfl) fun s hc => exv (prsV_eq s) (prs_v s (hc _ (.head _)) (hc _ (.tail _ (.head _))))
theorem prs_ok : CTok Tryz.prog 11 prsC := C1_ok cxy_ok Tryz.func11 rfl (by decide) dStr_eq.ok (by kernel_rfl) (fun _ => rfl) fun s hc => exv (prsV_eq s) (prs_v s (by have : s.size ≤ 1000000 := hc _ (.head _); omega) fun i => Nat.le_trans (lines_each s i) (hc _ (.head _)))
end Go.Proofs.YtkjcoehblekpdaaGreatDoorAv
namespace Go.Proofs.YtkjcoehblekpdaaGreatDoorAv
open Go Go.RowKit
def nmT (g : Nat → ByteArray) (t : ByteArray) : Nat → ByteArray
 | 0 => t
 | i + 1 => nmT g t i ++ (⟨#[32]⟩ ++ g i)
def lnT (t : ByteArray) (h : Hst) : ByteArray := nmT h.q.g (t ++ prn h.a.f) h.q.n ++ ⟨#[10]⟩
def prtN (g : Nat → Hst) : Nat → ByteArray
 | 0 => ⟨#[]⟩
 | i + 1 => lnT (prtN g i) (g i)
abbrev sqH (q : Sq Hst) : XV := .fz q.n 17 fun i => hostX (q.g i)
def cxz : Cx := { cx0 with C := [(28, prnC)] }
def ptI (q : Sq Hst) : Inv where
 σ := IL
 S := fun x => ⟨[(3, XT (prtN q.g x.i)), (8, sqH q), (9, XI q.n), (10, XI x.i)], [], 0, false, []⟩
 inv := fun x => x.i ≤ q.n
 μ := fun x => q.n - x.i
def ptJ (q : Sq Hst) (p : IL) : Inv where
 σ := IL
 S := fun x => ⟨[(3, XT (nmT (q.g p.i).q.g (prtN q.g p.i ++ prn (q.g p.i).a.f) x.i)), (8, sqH q), (9, XI q.n), (10, XI p.i), (20, .fz (q.g p.i).q.n 1 fun j => [XT ((q.g p.i).q.g j)]), (21, XI (q.g p.i).q.n), (22, XI x.i)], [], 0, false, []⟩
 inv := fun x => x.i ≤ (q.g p.i).q.n ∧ p.i < q.n
 μ := fun x => (q.g p.i).q.n - x.i
def ptE (q : Sq Hst) : Env := { loops := [(0, ptI q)], loopsP := [(2, ⟨IL, ptJ q⟩)] }
def ptV (q : Sq Hst) : Prop :=
 (∃ (x : (ptI q).σ), x.i.le q.n ∧ true = true ∧ ⟨#[]⟩ = prtN q.g x.i ∧ (XV.fz q.n 17 fun (i : Nat) => (hostX (q.g i))) = sqH q ∧ (↑q.n : Int) = (↑q.n : Int) ∧ (0 : Int) = (↑x.i : Int) ∧ True) ∧ ∀ (x : IL), x.i.le q.n → (decide ((↑x.i : Int) < (↑q.n : Int)) = true → (0 : Int) ≤ (↑x.i : Int) ∧ (↑x.i : Int) < (↑q.n : Int) ∧ (b16 (A16.f (q.g (↑x.i : Int).toNat).a)) ∧ (prtN q.g x.i).size + (prn (A16.f (q.g (↑x.i : Int).toNat).a)).size ≤ (9223372036854775807 : Nat) ∧ ∃ (p : { α := IL, J := ptJ q : InvP }.α), (∃ (x_1 : ({ α := IL, J := ptJ q : InvP }.J p).σ), (x_1.i ≤ (q.g p.i).q.n ∧ p.i < q.n) ∧ true = true ∧ (prtN q.g x.i ++ prn (A16.f (q.g (↑x.i : Int).toNat).a)) = nmT (q.g p.i).q.g (prtN q.g p.i ++ prn (q.g p.i).a.f) x_1.i ∧ (XV.fz q.n 17 fun (i : Nat) => (hostX (q.g i))) = sqH q ∧ (↑q.n : Int) = (↑q.n : Int) ∧ (↑x.i : Int) = (↑p.i : Int) ∧ ((XV.fz (q.g (↑x.i : Int).toNat).q.n 1 fun (j : Nat) => [XT ((q.g (↑x.i : Int).toNat).q.g j)]) = XV.fz (q.g p.i).q.n 1 fun (j : Nat) => [XT ((q.g p.i).q.g j)]) ∧ (↑(q.g (↑x.i : Int).toNat).q.n : Int) = (↑(q.g p.i).q.n : Int) ∧ (0 : Int) = (↑x_1.i : Int) ∧ True) ∧ ∀ (x_1 : IL), x_1.i ≤ (q.g p.i).q.n ∧ p.i < q.n → (decide ((↑x_1.i : Int) < (↑(q.g p.i).q.n : Int)) = true → (0 : Int) ≤ (↑x_1.i : Int) ∧ (↑x_1.i : Int) < (↑(q.g p.i).q.n : Int) ∧ (1 : Nat) + ((q.g p.i).q.g (↑x_1.i : Int).toNat).size ≤ (9223372036854775807 : Nat) ∧ (nmT (q.g p.i).q.g (prtN q.g p.i ++ prn (q.g p.i).a.f) x_1.i).size + (⟨#[32]⟩ ++ (q.g p.i).q.g (↑x_1.i : Int).toNat).size ≤ (9223372036854775807 : Nat) ∧ in64 ((↑x_1.i : Int) + (1 : Int)) ∧ ∃ (x' : ({ α := IL, J := ptJ q : InvP }.J p).σ), (x'.i ≤ (q.g p.i).q.n ∧ p.i < q.n) ∧ (q.g p.i).q.n - x'.i < (q.g p.i).q.n - x_1.i ∧ true = true ∧ nmT (q.g p.i).q.g (prtN q.g p.i ++ prn (q.g p.i).a.f) x_1.i ++ (⟨#[32]⟩ ++ (q.g p.i).q.g (↑x_1.i : Int).toNat) = nmT (q.g p.i).q.g (prtN q.g p.i ++ prn (q.g p.i).a.f) x'.i ∧ (XV.fz q.n 17 fun (i : Nat) => (hostX (q.g i))) = sqH q ∧ (↑q.n : Int) = (↑q.n : Int) ∧ (↑p.i : Int) = (↑p.i : Int) ∧ ((XV.fz (q.g p.i).q.n 1 fun (j : Nat) => [XT ((q.g p.i).q.g j)]) = XV.fz (q.g p.i).q.n 1 fun (j : Nat) => [XT ((q.g p.i).q.g j)]) ∧ (↑(q.g p.i).q.n : Int) = (↑(q.g p.i).q.n : Int) ∧ (↑x_1.i : Int) + (1 : Int) = (↑x'.i : Int) ∧ True) ∧ (decide ((↑x_1.i : Int) < (↑(q.g p.i).q.n : Int)) = false → (nmT (q.g p.i).q.g (prtN q.g p.i ++ prn (q.g p.i).a.f) x_1.i).size + (1 : Nat) ≤ (9223372036854775807 : Nat) ∧ in64 ((↑p.i : Int) + (1 : Int)) ∧ ∃ (x' : (ptI q).σ), x'.i.le q.n ∧ q.n - x'.i < q.n - x.i ∧ true = true ∧ nmT (q.g p.i).q.g (prtN q.g p.i ++ prn (q.g p.i).a.f) x_1.i ++ ⟨#[10]⟩ = prtN q.g x'.i ∧ (XV.fz q.n 17 fun (i : Nat) => (hostX (q.g i))) = sqH q ∧ (↑q.n : Int) = (↑q.n : Int) ∧ (↑p.i : Int) + (1 : Int) = (↑x'.i : Int) ∧ True)) ∧ (decide ((↑x.i : Int) < (↑q.n : Int)) = false → prtN q.g x.i = prtN q.g q.n)
theorem ptV_eq (q : Sq Hst) : ptV q = (funC cxz Tryz.f18 (mkSc (ptE q) (bodyOf Tryz.f18)) [sqH q] (XT (prtN q.g q.n))) := by kernel_rfl
theorem nmT_size (g : Nat → ByteArray) (t : ByteArray) (n : Nat) (hg : ∀ i, i < n → (g i).size ≤ 1000000) : ∀ j, j ≤ n → (nmT g t j).size ≤ t.size + j * 1000001
 | 0, _ => by rw [nmT]; omega
 | j + 1, h => by
  have ih := nmT_size g t n hg j (by omega)
  have h1 := hg j (by omega)
  rw [nmT, ByteArray.size_append, ByteArray.size_append, show (⟨#[32]⟩ : ByteArray).size = 1 from rfl]
  omega
def okH (h : Hst) : Prop := b16 h.a.f ∧ h.q.n ≤ 10000 ∧ ∀ i, i < h.q.n → (h.q.g i).size ≤ 1000000
theorem lnT_size {h : Hst} (hh : okH h) (t : ByteArray) : (lnT t h).size ≤ t.size + 20000000000 := by
 have h1 := nmT_size h.q.g (t ++ prn h.a.f) h.q.n hh.2.2 h.q.n (Nat.le_refl _)
 have h2 := prn_size h.a.f hh.1
 have h3 := hh.2.1
 rw [ByteArray.size_append] at h1
 rw [lnT, ByteArray.size_append, show (⟨#[10]⟩ : ByteArray).size = 1 from rfl]
 omega
theorem prtN_size (g : Nat → Hst) (n : Nat) (hg : ∀ i, i < n → okH (g i)) : ∀ i, i ≤ n → (prtN g i).size ≤ i * 20000000000
 | 0, _ => Nat.le_refl _
 | i + 1, h => by
  have ih := prtN_size g n hg i (by omega)
  have h1 := lnT_size (hg i (by omega)) (prtN g i)
  rw [prtN]
  omega
theorem pt_v (q : Sq Hst) (hn : q.n ≤ 10000) (hq : ∀ i, i < q.n → okH (q.g i)) : ptV q := by
 unfold ptV
 refine ⟨⟨⟨0⟩, Nat.zero_le _, rfl, rfl, rfl, rfl, rfl, trivial⟩, ?_⟩
 rintro ⟨i⟩ hi
 have hi : i ≤ q.n := hi
 dsimp only
 refine ⟨fun k => ?_, fun k => ?_⟩
 ·have k : (i : Int) < q.n := of_decide_eq_true k
  rw [Int.toNat_natCast]
  have ho := hq i (by omega)
  have h1 := prtN_size q.g q.n hq i hi
  have h2 := prn_size _ ho.1
  refine ⟨by omega, k, ho.1, by omega, ⟨i⟩, ⟨⟨0⟩, ⟨Nat.zero_le _, by show i < q.n; omega⟩, rfl, rfl, rfl, rfl, rfl, rfl, rfl, rfl, trivial⟩, ?_⟩
  rintro ⟨m⟩ ⟨hm, -⟩
  have hm : m ≤ (q.g i).q.n := hm
  dsimp only
  have h3 := nmT_size (q.g i).q.g (prtN q.g i ++ prn (q.g i).a.f) _ ho.2.2 m hm
  have h5 := ho.2.1
  rw [ByteArray.size_append] at h3
  refine ⟨fun k2 => ?_, fun k2 => ?_⟩
  ·have k2 : (m : Int) < (q.g i).q.n := of_decide_eq_true k2
   rw [Int.toNat_natCast]
   have h4 := ho.2.2 m (by omega)
   refine ⟨by omega, k2, by omega, by rw [ByteArray.size_append, show (⟨#[32]⟩ : ByteArray).size = 1 from rfl]; omega, by unfold in64; omega, ⟨m + 1⟩, ⟨by show m + 1 ≤ _; omega, by show i < q.n; omega⟩, by show (q.g i).q.n - (m + 1) < _; omega, rfl, rfl, rfl, rfl, rfl, rfl, rfl, rfl, trivial⟩
  ·have k2 : ¬ (m : Int) < (q.g i).q.n := of_decide_eq_false k2
   obtain rfl : m = (q.g i).q.n := by omega
   refine ⟨by omega, by unfold in64; omega, ⟨i + 1⟩, (show i + 1 ≤ q.n by omega), (show q.n - (i + 1) < q.n - i by omega), rfl, rfl, rfl, rfl, rfl, trivial⟩
 ·have k : ¬ (i : Int) < q.n := of_decide_eq_false k
  obtain rfl : i = q.n := by omega
  rfl
def rH (l : List XV) : Hst := ⟨⟨byteD (xget l 0), byteD (xget l 1), byteD (xget l 2), byteD (xget l 3), byteD (xget l 4), byteD (xget l 5), byteD (xget l 6), byteD (xget l 7), byteD (xget l 8), byteD (xget l 9), byteD (xget l 10), byteD (xget l 11), byteD (xget l 12), byteD (xget l 13), byteD (xget l 14), byteD (xget l 15)⟩, match xget l 16 with
 | .fz n _ f => ⟨n, fun j => strD (xget (f j) 0)⟩
 | _ => ⟨0, fun _ => ⟨#[]⟩⟩⟩
def dHs : Dc (Sq Hst) := dSl 17 rH hostX dH
def ptC : CT := C1 dHs (fun q => [q.n ≤ 10000, ∀ i, i < q.n → okH (q.g i)]) fun q => XT (prtN q.g q.n)
theorem pt_ok : CTok Tryz.prog 18 ptC := C1_ok (cx0_ok.addC pr_ok) Tryz.func18 rfl (by decide) dSl_ok (by kernel_rfl) (fun _ => rfl) fun q hc => exv (ptV_eq q) (pt_v q (hc _ (.head _)) (hc _ (.tail _ (.head _))))
end Go.Proofs.YtkjcoehblekpdaaGreatDoorAv
namespace Go.Proofs.YtkjcoehblekpdaaGreatDoorAv
open Go Go.RowKit
def rvF (a : Nat → Int) (j : Nat) : ByteArray := if j < 4 then itoaB (a (15 - j)) else if j = 4 then ⟨#[105, 110, 45, 97, 100, 100, 114]⟩ else ⟨#[97, 114, 112, 97]⟩
def rvH (a : Nat → Int) (j : Nat) : ByteArray := if j % 2 = 0 then hexB (bits .and .u8 (a (15 - j / 2)) 15).toNat else hexB ((a (15 - j / 2)).fdiv (2 ^ 4)).toNat
def rvG (a : Nat → Int) (j : Nat) : ByteArray := if j < 32 then rvH a j else if j = 32 then ⟨#[105, 112, 54]⟩ else ⟨#[97, 114, 112, 97]⟩
def rev (a : Nat → Int) : ByteArray := if is4 a = true then ljF (rvF a) 6 else ljF (rvG a) 34
structure IR where
 i : Nat
def cxr : Cx := { cx0 with C := [(19, is4L), (25, itoaC), (27, fmtC), (26, ljnC)] }
theorem cxr_ok : cxr.ok Tryz.prog := (((cx0_ok.addC ljn_ok).addC fm_ok).addC itoa_ok).addC is4L_ok
def rvI (a : Nat → Int) : Inv where
 σ := IR
 S := fun x => ⟨[(1, .ptr 0 0 0 0), (2, XT ⟨#[]⟩), (3, .sl 1 1 0 (2 * x.i)), (5, XI (15 - (x.i : Int)))], [(0, .one 27 true (adr a).cells), (1, .vec 9 true (2 * x.i) 1 fun j => [XT (rvH a j)])], 2, false, []⟩
 inv := fun x => x.i ≤ 16
 μ := fun x => 16 - x.i
def rvE (a : Nat → Int) : Env := { loops := [(2, rvI a)], rolls := [(0, 5)], own := [(2, [(3, 9, 1)])] }
def rvV_a (a : Nat → Int) (i : Nat) :=
  (bif i.blt ((4 : Nat)) then bif i.blt ((3 : Nat)) then bif i.blt ((2 : Nat)) then bif i.blt ((1 : Nat)) then itoaB ([a (0 : Nat), a (1 : Nat), a (2 : Nat), a (3 : Nat), a (4 : Nat), a (5 : Nat), a (6 : Nat), a (7 : Nat), a (8 : Nat), a (9 : Nat), a (10 : Nat), a (11 : Nat), a (12 : Nat), a (13 : Nat), a (14 : Nat), a (15 : Nat)].getD ((15 : Nat)) (0 : Int)) else itoaB ([a (0 : Nat), a (1 : Nat), a (2 : Nat), a (3 : Nat), a (4 : Nat), a (5 : Nat), a (6 : Nat), a (7 : Nat), a (8 : Nat), a (9 : Nat), a (10 : Nat), a (11 : Nat), a (12 : Nat), a (13 : Nat), a (14 : Nat), a (15 : Nat)].getD ((14 : Nat)) (0 : Int)) else itoaB ([a (0 : Nat), a (1 : Nat), a (2 : Nat), a (3 : Nat), a (4 : Nat), a (5 : Nat), a (6 : Nat), a (7 : Nat), a (8 : Nat), a (9 : Nat), a (10 : Nat), a (11 : Nat), a (12 : Nat), a (13 : Nat), a (14 : Nat), a (15 : Nat)].getD ((13 : Nat)) (0 : Int)) else itoaB ([a (0 : Nat), a (1 : Nat), a (2 : Nat), a (3 : Nat), a (4 : Nat), a (5 : Nat), a (6 : Nat), a (7 : Nat), a (8 : Nat), a (9 : Nat), a (10 : Nat), a (11 : Nat), a (12 : Nat), a (13 : Nat), a (14 : Nat), a (15 : Nat)].getD ((12 : Nat)) (0 : Int)) else [{ data := #[(105 : UInt8), (110 : UInt8), (45 : UInt8), (97 : UInt8), (100 : UInt8), (100 : UInt8), (114 : UInt8)] : ByteArray }, { data := #[(97 : UInt8), (114 : UInt8), (112 : UInt8), (97 : UInt8)] : ByteArray }].getD (i - (4 : Nat)) { data := #[] : ByteArray })
def rvV_b (a : Nat → Int) (x : IR) :=
  ([a (0 : Nat), a (1 : Nat), a (2 : Nat), a (3 : Nat), a (4 : Nat), a (5 : Nat), a (6 : Nat), a (7 : Nat), a (8 : Nat), a (9 : Nat), a (10 : Nat), a (11 : Nat), a (12 : Nat), a (13 : Nat), a (14 : Nat), a (15 : Nat)].getD ((15 : Int) - (↑x.i : Int)).toNat (0 : Int))
def rvV_c (a : Nat → Int) (x : IR) (i : Nat) :=
  (bif i.blt ((2 : Nat) * x.i) then rvH a i else [{ data := #[(105 : UInt8), (112 : UInt8), (54 : UInt8)] : ByteArray }, { data := #[(97 : UInt8), (114 : UInt8), (112 : UInt8), (97 : UInt8)] : ByteArray }].getD (i - (2 : Nat) * x.i) { data := #[] : ByteArray })
def rvV (a : Nat → Int) : Prop :=
  ((is4 fun (i : Nat) => [a (0 : Nat), a (1 : Nat), a (2 : Nat), a (3 : Nat), a (4 : Nat), a (5 : Nat), a (6 : Nat), a (7 : Nat), a (8 : Nat), a (9 : Nat), a (10 : Nat), a (11 : Nat), a (12 : Nat), a (13 : Nat), a (14 : Nat), a (15 : Nat)].getD i (0 : Int)) = true → (0 : Int) ≤ (15 : Int) ∧ (15 : Int) < (↑(16 : Nat) : Int) ∧ (15 : Nat) < [a (0 : Nat), a (1 : Nat), a (2 : Nat), a (3 : Nat), a (4 : Nat), a (5 : Nat), a (6 : Nat), a (7 : Nat), a (8 : Nat), a (9 : Nat), a (10 : Nat), a (11 : Nat), a (12 : Nat), a (13 : Nat), a (14 : Nat), a (15 : Nat)].length ∧ in64 ([a (0 : Nat), a (1 : Nat), a (2 : Nat), a (3 : Nat), a (4 : Nat), a (5 : Nat), a (6 : Nat), a (7 : Nat), a (8 : Nat), a (9 : Nat), a (10 : Nat), a (11 : Nat), a (12 : Nat), a (13 : Nat), a (14 : Nat), a (15 : Nat)].getD ((15 : Nat)) (0 : Int)) ∧ (0 : Int) ≤ [a (0 : Nat), a (1 : Nat), a (2 : Nat), a (3 : Nat), a (4 : Nat), a (5 : Nat), a (6 : Nat), a (7 : Nat), a (8 : Nat), a (9 : Nat), a (10 : Nat), a (11 : Nat), a (12 : Nat), a (13 : Nat), a (14 : Nat), a (15 : Nat)].getD ((15 : Nat)) (0 : Int) ∧ [a (0 : Nat), a (1 : Nat), a (2 : Nat), a (3 : Nat), a (4 : Nat), a (5 : Nat), a (6 : Nat), a (7 : Nat), a (8 : Nat), a (9 : Nat), a (10 : Nat), a (11 : Nat), a (12 : Nat), a (13 : Nat), a (14 : Nat), a (15 : Nat)].getD ((15 : Nat)) (0 : Int) ≤ (1000000 : Int) ∧ (0 : Nat) = (0 : Nat) ∧ (16 : Nat) ≤ (140737488355328 : Nat) ∧ (1 : Nat) ≤ (140737488355328 : Nat) ∧ in64 ((15 : Int) - (1 : Int)) ∧ (0 : Int) ≤ (15 : Int) - (1 : Int) ∧ (15 : Int) - (1 : Int) < (↑(16 : Nat) : Int) ∧ (14 : Nat) < [a (0 : Nat), a (1 : Nat), a (2 : Nat), a (3 : Nat), a (4 : Nat), a (5 : Nat), a (6 : Nat), a (7 : Nat), a (8 : Nat), a (9 : Nat), a (10 : Nat), a (11 : Nat), a (12 : Nat), a (13 : Nat), a (14 : Nat), a (15 : Nat)].length ∧ in64 ([a (0 : Nat), a (1 : Nat), a (2 : Nat), a (3 : Nat), a (4 : Nat), a (5 : Nat), a (6 : Nat), a (7 : Nat), a (8 : Nat), a (9 : Nat), a (10 : Nat), a (11 : Nat), a (12 : Nat), a (13 : Nat), a (14 : Nat), a (15 : Nat)].getD ((14 : Nat)) (0 : Int)) ∧ (0 : Int) ≤ [a (0 : Nat), a (1 : Nat), a (2 : Nat), a (3 : Nat), a (4 : Nat), a (5 : Nat), a (6 : Nat), a (7 : Nat), a (8 : Nat), a (9 : Nat), a (10 : Nat), a (11 : Nat), a (12 : Nat), a (13 : Nat), a (14 : Nat), a (15 : Nat)].getD ((14 : Nat)) (0 : Int) ∧ [a (0 : Nat), a (1 : Nat), a (2 : Nat), a (3 : Nat), a (4 : Nat), a (5 : Nat), a (6 : Nat), a (7 : Nat), a (8 : Nat), a (9 : Nat), a (10 : Nat), a (11 : Nat), a (12 : Nat), a (13 : Nat), a (14 : Nat), a (15 : Nat)].getD ((14 : Nat)) (0 : Int) ≤ (1000000 : Int) ∧ (1 : Nat) = (1 : Nat) ∧ (32 : Nat) ≤ (140737488355328 : Nat) ∧ (2 : Nat) ≤ (140737488355328 : Nat) ∧ in64 ((15 : Int) - (1 : Int) - (1 : Int)) ∧ (0 : Int) ≤ (15 : Int) - (1 : Int) - (1 : Int) ∧ (15 : Int) - (1 : Int) - (1 : Int) < (↑(16 : Nat) : Int) ∧ (13 : Nat) < [a (0 : Nat), a (1 : Nat), a (2 : Nat), a (3 : Nat), a (4 : Nat), a (5 : Nat), a (6 : Nat), a (7 : Nat), a (8 : Nat), a (9 : Nat), a (10 : Nat), a (11 : Nat), a (12 : Nat), a (13 : Nat), a (14 : Nat), a (15 : Nat)].length ∧ in64 ([a (0 : Nat), a (1 : Nat), a (2 : Nat), a (3 : Nat), a (4 : Nat), a (5 : Nat), a (6 : Nat), a (7 : Nat), a (8 : Nat), a (9 : Nat), a (10 : Nat), a (11 : Nat), a (12 : Nat), a (13 : Nat), a (14 : Nat), a (15 : Nat)].getD ((13 : Nat)) (0 : Int)) ∧ (0 : Int) ≤ [a (0 : Nat), a (1 : Nat), a (2 : Nat), a (3 : Nat), a (4 : Nat), a (5 : Nat), a (6 : Nat), a (7 : Nat), a (8 : Nat), a (9 : Nat), a (10 : Nat), a (11 : Nat), a (12 : Nat), a (13 : Nat), a (14 : Nat), a (15 : Nat)].getD ((13 : Nat)) (0 : Int) ∧ [a (0 : Nat), a (1 : Nat), a (2 : Nat), a (3 : Nat), a (4 : Nat), a (5 : Nat), a (6 : Nat), a (7 : Nat), a (8 : Nat), a (9 : Nat), a (10 : Nat), a (11 : Nat), a (12 : Nat), a (13 : Nat), a (14 : Nat), a (15 : Nat)].getD ((13 : Nat)) (0 : Int) ≤ (1000000 : Int) ∧ (2 : Nat) = (2 : Nat) ∧ (48 : Nat) ≤ (140737488355328 : Nat) ∧ (3 : Nat) ≤ (140737488355328 : Nat) ∧ in64 ((15 : Int) - (1 : Int) - (1 : Int) - (1 : Int)) ∧ (0 : Int) ≤ (15 : Int) - (1 : Int) - (1 : Int) - (1 : Int) ∧ (15 : Int) - (1 : Int) - (1 : Int) - (1 : Int) < (↑(16 : Nat) : Int) ∧ (12 : Nat) < [a (0 : Nat), a (1 : Nat), a (2 : Nat), a (3 : Nat), a (4 : Nat), a (5 : Nat), a (6 : Nat), a (7 : Nat), a (8 : Nat), a (9 : Nat), a (10 : Nat), a (11 : Nat), a (12 : Nat), a (13 : Nat), a (14 : Nat), a (15 : Nat)].length ∧ in64 ([a (0 : Nat), a (1 : Nat), a (2 : Nat), a (3 : Nat), a (4 : Nat), a (5 : Nat), a (6 : Nat), a (7 : Nat), a (8 : Nat), a (9 : Nat), a (10 : Nat), a (11 : Nat), a (12 : Nat), a (13 : Nat), a (14 : Nat), a (15 : Nat)].getD ((12 : Nat)) (0 : Int)) ∧ (0 : Int) ≤ [a (0 : Nat), a (1 : Nat), a (2 : Nat), a (3 : Nat), a (4 : Nat), a (5 : Nat), a (6 : Nat), a (7 : Nat), a (8 : Nat), a (9 : Nat), a (10 : Nat), a (11 : Nat), a (12 : Nat), a (13 : Nat), a (14 : Nat), a (15 : Nat)].getD ((12 : Nat)) (0 : Int) ∧ [a (0 : Nat), a (1 : Nat), a (2 : Nat), a (3 : Nat), a (4 : Nat), a (5 : Nat), a (6 : Nat), a (7 : Nat), a (8 : Nat), a (9 : Nat), a (10 : Nat), a (11 : Nat), a (12 : Nat), a (13 : Nat), a (14 : Nat), a (15 : Nat)].getD ((12 : Nat)) (0 : Int) ≤ (1000000 : Int) ∧ (3 : Nat) = (3 : Nat) ∧ (64 : Nat) ≤ (140737488355328 : Nat) ∧ (4 : Nat) ≤ (140737488355328 : Nat) ∧ in64 ((15 : Int) - (1 : Int) - (1 : Int) - (1 : Int) - (1 : Int)) ∧ (4 : Nat) = (4 : Nat) ∧ (96 : Nat) ≤ (140737488355328 : Nat) ∧ (6 : Nat) ≤ (140737488355328 : Nat) ∧ (6 : Nat) = (6 : Nat) ∧ (∀ (i : Nat), i < (6 : Nat) → [XT (rvV_a a i)] = [XT (rvV_a a i)]) ∧ (6 : Nat) ≤ (3000 : Nat) ∧ (∀ (i : Nat), i < (6 : Nat) → (rvV_a a i).size ≤ (1000000 : Nat)) ∧ ljF (fun (i : Nat) => bif i.blt ((4 : Nat)) then bif i.blt ((3 : Nat)) then bif i.blt ((2 : Nat)) then bif i.blt ((1 : Nat)) then itoaB ([a (0 : Nat), a (1 : Nat), a (2 : Nat), a (3 : Nat), a (4 : Nat), a (5 : Nat), a (6 : Nat), a (7 : Nat), a (8 : Nat), a (9 : Nat), a (10 : Nat), a (11 : Nat), a (12 : Nat), a (13 : Nat), a (14 : Nat), a (15 : Nat)].getD ((15 : Nat)) (0 : Int)) else itoaB ([a (0 : Nat), a (1 : Nat), a (2 : Nat), a (3 : Nat), a (4 : Nat), a (5 : Nat), a (6 : Nat), a (7 : Nat), a (8 : Nat), a (9 : Nat), a (10 : Nat), a (11 : Nat), a (12 : Nat), a (13 : Nat), a (14 : Nat), a (15 : Nat)].getD ((14 : Nat)) (0 : Int)) else itoaB ([a (0 : Nat), a (1 : Nat), a (2 : Nat), a (3 : Nat), a (4 : Nat), a (5 : Nat), a (6 : Nat), a (7 : Nat), a (8 : Nat), a (9 : Nat), a (10 : Nat), a (11 : Nat), a (12 : Nat), a (13 : Nat), a (14 : Nat), a (15 : Nat)].getD ((13 : Nat)) (0 : Int)) else itoaB ([a (0 : Nat), a (1 : Nat), a (2 : Nat), a (3 : Nat), a (4 : Nat), a (5 : Nat), a (6 : Nat), a (7 : Nat), a (8 : Nat), a (9 : Nat), a (10 : Nat), a (11 : Nat), a (12 : Nat), a (13 : Nat), a (14 : Nat), a (15 : Nat)].getD ((12 : Nat)) (0 : Int)) else [{ data := #[(105 : UInt8), (110 : UInt8), (45 : UInt8), (97 : UInt8), (100 : UInt8), (100 : UInt8), (114 : UInt8)] : ByteArray }, { data := #[(97 : UInt8), (114 : UInt8), (112 : UInt8), (97 : UInt8)] : ByteArray }].getD (i - (4 : Nat)) { data := #[] : ByteArray }) ((6 : Nat)) = rev a) ∧ ((is4 fun (i : Nat) => [a (0 : Nat), a (1 : Nat), a (2 : Nat), a (3 : Nat), a (4 : Nat), a (5 : Nat), a (6 : Nat), a (7 : Nat), a (8 : Nat), a (9 : Nat), a (10 : Nat), a (11 : Nat), a (12 : Nat), a (13 : Nat), a (14 : Nat), a (15 : Nat)].getD i (0 : Int)) = false → (∃ (x : (rvI a).σ), x.i.le (16 : Nat) ∧ true = true ∧ XV.ptr (0 : Nat) (0 : Nat) (0 : Nat) (0 : Nat) = XV.ptr (0 : Nat) (0 : Nat) (0 : Nat) (0 : Nat) ∧ { data := #[] : ByteArray } = { data := #[] : ByteArray } ∧ XV.sl ((0 : Nat) + (1 : Nat)) (1 : Nat) (0 : Nat) (0 : Nat) = XV.sl (1 : Nat) (1 : Nat) (0 : Nat) ((2 : Nat) * x.i) ∧ (15 : Int) = (15 : Int) - (↑x.i : Int) ∧ (((27 : Nat) = (27 : TypeId) ∧ true = true) ∧ a (0 : Nat) = a (0 : Nat) ∧ a (1 : Nat) = a (1 : Nat) ∧ a (2 : Nat) = a (2 : Nat) ∧ a (3 : Nat) = a (3 : Nat) ∧ a (4 : Nat) = a (4 : Nat) ∧ a (5 : Nat) = a (5 : Nat) ∧ a (6 : Nat) = a (6 : Nat) ∧ a (7 : Nat) = a (7 : Nat) ∧ a (8 : Nat) = a (8 : Nat) ∧ a (9 : Nat) = a (9 : Nat) ∧ a (10 : Nat) = a (10 : Nat) ∧ a (11 : Nat) = a (11 : Nat) ∧ a (12 : Nat) = a (12 : Nat) ∧ a (13 : Nat) = a (13 : Nat) ∧ a (14 : Nat) = a (14 : Nat) ∧ a (15 : Nat) = a (15 : Nat) ∧ True) ∧ (((9 : Nat) = (9 : TypeId) ∧ true = true ∧ (1 : Nat) = (1 : Nat)) ∧ (0 : Nat) = (2 : Nat) * x.i ∧ ∀ (j : Nat), j < (0 : Nat) → [] = [XT (rvH a j)]) ∧ True) ∧ ∀ (x : IR), x.i.le (16 : Nat) → (decide ((15 : Int) - (↑x.i : Int) ≥ (0 : Int)) = true → (0 : Int) ≤ (15 : Int) - (↑x.i : Int) ∧ (15 : Int) - (↑x.i : Int) < (↑(16 : Nat) : Int) ∧ ((15 : Int) - (↑x.i : Int)).toNat < [a (0 : Nat), a (1 : Nat), a (2 : Nat), a (3 : Nat), a (4 : Nat), a (5 : Nat), a (6 : Nat), a (7 : Nat), a (8 : Nat), a (9 : Nat), a (10 : Nat), a (11 : Nat), a (12 : Nat), a (13 : Nat), a (14 : Nat), a (15 : Nat)].length ∧ in64 (bits BinOp.and IntKind.u8 (rvV_b a x) (15 : Int)) ∧ (0 : Int) ≤ bits BinOp.and IntKind.u8 (rvV_b a x) (15 : Int) ∧ bits BinOp.and IntKind.u8 (rvV_b a x) (15 : Int) < (65536 : Int) ∧ (16 : Int) = (16 : Int) ∧ (0 : Int) ≤ (15 : Int) - (↑x.i : Int) ∧ (15 : Int) - (↑x.i : Int) < (↑(16 : Nat) : Int) ∧ ((15 : Int) - (↑x.i : Int)).toNat < [a (0 : Nat), a (1 : Nat), a (2 : Nat), a (3 : Nat), a (4 : Nat), a (5 : Nat), a (6 : Nat), a (7 : Nat), a (8 : Nat), a (9 : Nat), a (10 : Nat), a (11 : Nat), a (12 : Nat), a (13 : Nat), a (14 : Nat), a (15 : Nat)].length ∧ in64 ((rvV_b a x).fdiv ((2 : Int) ^ (4 : Nat))) ∧ (0 : Int) ≤ (rvV_b a x).fdiv ((2 : Int) ^ (4 : Nat)) ∧ (rvV_b a x).fdiv ((2 : Int) ^ (4 : Nat)) < (65536 : Int) ∧ (16 : Int) = (16 : Int) ∧ (2 : Nat) * x.i = (2 : Nat) * x.i ∧ ((2 : Nat) * x.i + (2 : Nat)) * (16 : Nat) ≤ (140737488355328 : Nat) ∧ (2 : Nat) * x.i + (2 : Nat) ≤ (140737488355328 : Nat) ∧ in64 ((15 : Int) - (↑x.i : Int) - (1 : Int)) ∧ ∃ (x' : (rvI a).σ), x'.i.le (16 : Nat) ∧ (16 : Nat) - x'.i < (16 : Nat) - x.i ∧ true = true ∧ XV.ptr (0 : Nat) (0 : Nat) (0 : Nat) (0 : Nat) = XV.ptr (0 : Nat) (0 : Nat) (0 : Nat) (0 : Nat) ∧ { data := #[] : ByteArray } = { data := #[] : ByteArray } ∧ XV.sl (1 : Nat) (1 : Nat) (0 : Nat) ((2 : Nat) * x.i + (2 : Nat)) = XV.sl (1 : Nat) (1 : Nat) (0 : Nat) ((2 : Nat) * x'.i) ∧ (15 : Int) - (↑x.i : Int) - (1 : Int) = (15 : Int) - (↑x'.i : Int) ∧ (((27 : TypeId) = (27 : TypeId) ∧ true = true) ∧ a (0 : Nat) = a (0 : Nat) ∧ a (1 : Nat) = a (1 : Nat) ∧ a (2 : Nat) = a (2 : Nat) ∧ a (3 : Nat) = a (3 : Nat) ∧ a (4 : Nat) = a (4 : Nat) ∧ a (5 : Nat) = a (5 : Nat) ∧ a (6 : Nat) = a (6 : Nat) ∧ a (7 : Nat) = a (7 : Nat) ∧ a (8 : Nat) = a (8 : Nat) ∧ a (9 : Nat) = a (9 : Nat) ∧ a (10 : Nat) = a (10 : Nat) ∧ a (11 : Nat) = a (11 : Nat) ∧ a (12 : Nat) = a (12 : Nat) ∧ a (13 : Nat) = a (13 : Nat) ∧ a (14 : Nat) = a (14 : Nat) ∧ a (15 : Nat) = a (15 : Nat) ∧ True) ∧ (((9 : TypeId) = (9 : TypeId) ∧ true = true ∧ (1 : Nat) = (1 : Nat)) ∧ (2 : Nat) * x.i + (2 : Nat) = (2 : Nat) * x'.i ∧ ∀ (j : Nat), j < (2 : Nat) * x.i + (2 : Nat) → [XT (bif j.blt ((2 : Nat) * x.i) then rvH a j else [hexB (bits BinOp.and IntKind.u8 (rvV_b a x) (15 : Int)).toNat, hexB ((rvV_b a x).fdiv ((2 : Int) ^ (4 : Nat))).toNat].getD (j - (2 : Nat) * x.i) { data := #[] : ByteArray })] = [XT (rvH a j)]) ∧ True) ∧ (decide ((15 : Int) - (↑x.i : Int) ≥ (0 : Int)) = false → (2 : Nat) * x.i = (2 : Nat) * x.i ∧ ((2 : Nat) * x.i + (2 : Nat)) * (16 : Nat) ≤ (140737488355328 : Nat) ∧ (2 : Nat) * x.i + (2 : Nat) ≤ (140737488355328 : Nat) ∧ (2 : Nat) * x.i + (2 : Nat) = (2 : Nat) * x.i + (2 : Nat) ∧ (∀ (i : Nat), i < (2 : Nat) * x.i + (2 : Nat) → [XT (rvV_c a x i)] = [XT (rvV_c a x i)]) ∧ (2 : Nat) * x.i + (2 : Nat) ≤ (3000 : Nat) ∧ (∀ (i : Nat), i < (2 : Nat) * x.i + (2 : Nat) → (rvV_c a x i).size ≤ (1000000 : Nat)) ∧ ljF (fun (i : Nat) => bif i.blt ((2 : Nat) * x.i) then rvH a i else [{ data := #[(105 : UInt8), (112 : UInt8), (54 : UInt8)] : ByteArray }, { data := #[(97 : UInt8), (114 : UInt8), (112 : UInt8), (97 : UInt8)] : ByteArray }].getD (i - (2 : Nat) * x.i) { data := #[] : ByteArray }) ((2 : Nat) * x.i + (2 : Nat)) = rev a))
theorem rvV_eq (a : Nat → Int) : rvV a = (funC cxr Tryz.f14 (mkSc (rvE a) (bodyOf Tryz.f14)) [adr a] (XT (rev a))) := by kernel_rfl
end Go.Proofs.YtkjcoehblekpdaaGreatDoorAv
namespace Go.Proofs.YtkjcoehblekpdaaGreatDoorAv
open Go Go.RowKit
theorem andB15 (x : Int) (h : 0 ≤ x ∧ x ≤ 255) : bits .and .u8 x 15 = ((x.toNat % 16 : Nat) : Int) := by
 have := u8_and15 (x := x) h.1 (by omega)
 rw [this]
 omega
theorem div16 (x : Int) (h : 0 ≤ x ∧ x ≤ 255) : x.fdiv (2 ^ 4) = ((x.toNat / 16 : Nat) : Int) := by
 rw [Int.fdiv_eq_ediv_of_nonneg _ (by decide)]
 have : (2 : Int) ^ 4 = 16 := rfl
 rw [this]
 omega
theorem ljF_ext (g h : Nat → ByteArray) : ∀ n, (∀ i, i < n → g i = h i) → ljF g n = ljF h n
 | 0, _ => rfl
 | n + 1, e => by rw [ljF, ljF, ljF_ext g h n (fun i hi => e i (by omega)), e n (by omega)]
theorem rvH_size (a : Nat → Int) (j : Nat) : (rvH a j).size ≤ 4 := by
 unfold rvH
 split <;> exact hexB_size _
theorem itoa_sz (x : Int) (h : 0 ≤ x ∧ x ≤ 255) : (itoaB x).size ≤ 1000000 := by
 have := itoaB_byte ⟨x.toNat, by omega⟩
 have e : (((⟨x.toNat, by omega⟩ : Fin 256).val : Nat) : Int) = x := by
  show ((x.toNat : Nat) : Int) = x
  omega
 rw [e] at this
 omega
theorem rv_v (a : Nat → Int) (ha : b16 a) : rvV a := by
 have hb := g16b a ha
 unfold rvV rvV_c rvV_b rvV_a
 have el : (is4 fun i => [a 0, a 1, a 2, a 3, a 4, a 5, a 6, a 7, a 8, a 9, a 10, a 11, a 12, a 13, a 14, a 15].getD i 0) = is4 a := is4_ext fun k hk => get16 a k hk
 rw [el]
 have e6 : ∀ i, i < 6 → (bif i.blt 4 then bif i.blt 3 then bif i.blt 2 then bif i.blt 1 then itoaB ([a 0, a 1, a 2, a 3, a 4, a 5, a 6, a 7, a 8, a 9, a 10, a 11, a 12, a 13, a 14, a 15].getD 15 0) else itoaB ([a 0, a 1, a 2, a 3, a 4, a 5, a 6, a 7, a 8, a 9, a 10, a 11, a 12, a 13, a 14, a 15].getD 14 0) else itoaB ([a 0, a 1, a 2, a 3, a 4, a 5, a 6, a 7, a 8, a 9, a 10, a 11, a 12, a 13, a 14, a 15].getD 13 0) else itoaB ([a 0, a 1, a 2, a 3, a 4, a 5, a 6, a 7, a 8, a 9, a 10, a 11, a 12, a 13, a 14, a 15].getD 12 0) else [(⟨#[105, 110, 45, 97, 100, 100, 114]⟩ : ByteArray), ⟨#[97, 114, 112, 97]⟩].getD (i - 4) ⟨#[]⟩) = rvF a i := fun i hi => by
  match i, hi with
  | 0, _ => rfl
  | 1, _ => rfl
  | 2, _ => rfl
  | 3, _ => rfl
  | 4, _ => rfl
  | 5, _ => rfl
  | i + 6, hi => exact absurd hi (by omega)
 refine ⟨fun h4 => ?_, fun h4 => ⟨⟨⟨0⟩, Nat.zero_le _, rfl, rfl, rfl, rfl, rfl, ?_, ⟨⟨rfl, rfl, rfl⟩, rfl, fun j hj => absurd hj (by omega)⟩, trivial⟩, ?_⟩⟩
 ·have h4 : is4 a = true := h4
  refine ⟨by omega, by omega, by show 15 < 16; omega, in64_b (hb _), (hb _).1, Int.le_trans (hb _).2 (by decide), rfl, by omega, by omega, by unfold in64; omega, by omega, by omega, by show 14 < 16; omega, in64_b (hb _), (hb _).1, Int.le_trans (hb _).2 (by decide), rfl, by omega, by omega, by unfold in64; omega, by omega, by omega, by show 13 < 16; omega, in64_b (hb _), (hb _).1, Int.le_trans (hb _).2 (by decide), rfl, by omega, by omega, by unfold in64; omega, by omega, by omega, by show 12 < 16; omega, in64_b (hb _), (hb _).1, Int.le_trans (hb _).2 (by decide), rfl, by omega, by omega, by unfold in64; omega, rfl, by omega, by omega, rfl, fun _ _ => rfl, by omega, fun i hi => ?_, ?_⟩
  ·rw [e6 i hi]
   unfold rvF
   split
   ·exact itoa_sz _ (ha (15 - i) (by omega))
   ·split
    ·show 7 ≤ 1000000; omega
    ·show 4 ≤ 1000000; omega
  ·rw [ljF_ext _ (rvF a) 6 e6]
   unfold rev
   rw [if_pos h4]
 ·and_intros <;> first | with_reducible rfl | trivial
 ·rintro ⟨i⟩ hi
  have hi : i ≤ 16 := hi
  refine ⟨fun h => ?_, fun h => ?_⟩
  ·have h : (15 : Int) - (i : Int) ≥ 0 := of_decide_eq_true h
   have e : ((15 : Int) - (i : Int)).toNat = 15 - i := by omega
   have hx := ha (15 - i) (by omega)
   dsimp only
   rw [e, get16 a (15 - i) (by omega)]
   have b1 := andB15 _ hx
   have b2 := div16 _ hx
   have hl : (a (15 - i)).toNat < 256 := by omega
   refine ⟨by omega, by omega, by show 15 - i < 16; omega, by rw [b1]; unfold in64; omega, by rw [b1]; omega, by rw [b1]; omega, rfl, by omega, by omega, by show 15 - i < 16; omega, by rw [b2]; unfold in64; omega, by rw [b2]; omega, by rw [b2]; omega, rfl, rfl, by omega, by omega, by unfold in64; omega, ⟨i + 1⟩, by show i + 1 ≤ 16; omega, by show 16 - (i + 1) < 16 - i; omega, rfl, rfl, rfl, ?_, ?_, ?_, ⟨⟨rfl, rfl, rfl⟩, ?_, fun j hj => ?_⟩, trivial⟩
   ·show XV.sl 1 1 0 (2 * i + 2) = XV.sl 1 1 0 (2 * (i + 1))
    rw [show 2 * (i + 1) = 2 * i + 2 by omega]
   ·show (15 : Int) - i - 1 = 15 - ((i + 1 : Nat) : Int)
    omega
   ·and_intros <;> first | with_reducible rfl | trivial
   ·show 2 * i + 2 = 2 * (i + 1)
    omega
   ·refine congrArg (fun x => [XT x]) ?_
    rw [bltN]
    by_cases h1 : j < 2 * i
    ·rw [decide_eq_true h1, cond_true]
    ·rw [decide_eq_false h1, cond_false]
     unfold rvH
     by_cases h2 : j = 2 * i
     ·subst h2
      rw [Nat.sub_self, if_pos (by omega), show 15 - 2 * i / 2 = 15 - i by omega]
      rfl
     ·have h3 : j = 2 * i + 1 := by omega
      subst h3
      rw [show 2 * i + 1 - 2 * i = 1 by omega, if_neg (by omega), show 15 - (2 * i + 1) / 2 = 15 - i by omega]
      rfl
  ·have h : ¬ (15 : Int) - (i : Int) ≥ 0 := of_decide_eq_false h
   obtain rfl : i = 16 := by omega
   have eg : ∀ j, j < 2 * 16 + 2 → (bif j.blt (2 * 16) then rvH a j else [(⟨#[105, 112, 54]⟩ : ByteArray), ⟨#[97, 114, 112, 97]⟩].getD (j - 2 * 16) ⟨#[]⟩) = rvG a j := fun j hj => by
    rw [bltN]
    unfold rvG
    by_cases h1 : j < 2 * 16
    ·rw [decide_eq_true h1, cond_true, if_pos h1]
    ·rw [decide_eq_false h1, cond_false, if_neg h1]
     by_cases h2 : j = 32
     ·subst h2; rfl
     ·have h3 : j = 33 := by omega
      subst h3
      rfl
   refine ⟨rfl, by dsimp only; omega, by dsimp only; omega, rfl, fun _ _ => rfl, by dsimp only; omega, fun j hj => ?_, ?_⟩
   ·dsimp only at hj ⊢
    rw [eg j hj]
    unfold rvG
    have := rvH_size a j
    split
    ·omega
    ·split
     ·show 3 ≤ 1000000; omega
     ·show 4 ≤ 1000000; omega
   ·dsimp only
    rw [ljF_ext _ (rvG a) (2 * 16 + 2) eg]
    unfold rev
    rw [if_neg (by rw [show is4 a = false from h4]; decide)]
def revC : CT := C1 dAL (fun g => [b16 g]) fun g => XT (rev g)
theorem rev_ok : CTok Tryz.prog 14 revC := C1_ok cxr_ok Tryz.func14 rfl (by decide) dAL_eq.ok (by kernel_rfl) (fun _ => rfl) fun g hc => exv (rvV_eq g) (rv_v g (hc (b16 g) (.head _)))
end Go.Proofs.YtkjcoehblekpdaaGreatDoorAv
namespace Go.Proofs.YtkjcoehblekpdaaGreatDoorAv
open Go Go.RowKit
structure Rec where
 n : ByteArray
 k : Int
 ttl : Int
 a : A16
 t : ByteArray
 d : ByteArray
def recX (r : Rec) : List XV := [XT r.n, XI r.k, XI r.ttl, X8 r.a.x0, X8 r.a.x1, X8 r.a.x2, X8 r.a.x3, X8 r.a.x4, X8 r.a.x5, X8 r.a.x6, X8 r.a.x7, X8 r.a.x8, X8 r.a.x9, X8 r.a.x10, X8 r.a.x11, X8 r.a.x12, X8 r.a.x13, X8 r.a.x14, X8 r.a.x15, XT r.t, XT r.d]
def z16 : A16 := ⟨0, 0, 0, 0, 0, 0, 0, 0, 0, 0, 0, 0, 0, 0, 0, 0⟩
def dR : Rec := ⟨⟨#[]⟩, 0, 0, z16, ⟨#[]⟩, ⟨#[]⟩⟩
def lenR (l : List Rec) : Nat := l.length
def getR (l : List Rec) (i : Nat) : Rec := l.getD i dR
def recsL (l : List Rec) : XV := .fz (lenR l) 21 fun i => recX (getR l i)
def kdB (h : Hst) (k : Int) : Bool := k == 1 && is4 h.a.f || k == 28 && !is4 h.a.f
def fndO (h : Hst) (n : ByteArray) (k : Int) : List Rec :=
 if rev h.a.f = n then (if (k == 12) = true then [⟨n, k, 0, z16, h.q.g 0, ⟨#[]⟩⟩] else [])
 else if hasF h.q.g n h.q.n = true then (if kdB h k = true then [⟨n, k, 0, h.a, ⟨#[]⟩, ⟨#[]⟩⟩] else []) else []
def fndT (h : Hst) (n : ByteArray) : Bool := decide (rev h.a.f = n) || hasF h.q.g n h.q.n
def fndN (g : Nat → Hst) (n : ByteArray) (k : Int) : Nat → List Rec
 | 0 => []
 | i + 1 => fndN g n k i ++ fndO (g i) n k
def fndB (g : Nat → Hst) (n : ByteArray) : Nat → Bool
 | 0 => false
 | i + 1 => fndB g n i || fndT (g i) n
def fndR (q : Sq Hst) (n : ByteArray) (k : Int) : List Rec := (fndN q.g n k q.n).take 32
def cxf' : Cx := { cx0 with C := [(14, revC), (15, hasC), (19, is4L)] }
def fnI (q : Sq Hst) (n : ByteArray) (k : Int) : Inv where
 σ := IL
 S := fun x => ⟨[(1, XT n), (2, XI k), (8, .sl 0 21 0 (lenR (fndN q.g n k x.i))), (9, XB (fndB q.g n x.i)), (12, sqH q), (13, XI q.n), (14, XI x.i)], [(0, .vec 38 true (lenR (fndN q.g n k x.i)) 21 fun j => recX (getR (fndN q.g n k x.i) j))], 1, false, []⟩
 inv := fun x => x.i ≤ q.n
 μ := fun x => q.n - x.i
def fnE (q : Sq Hst) (n : ByteArray) (k : Int) : Env := { loops := [(0, fnI q n k)], own := [(2, [(8, 38, 21)])], frz := [(15, [8])] }
def fnV (q : Sq Hst) (n : ByteArray) (k : Int) : Prop :=
 (∃ (x : (fnI q n k).σ), x.i.le q.n ∧ true = true ∧ n = n ∧ k = k ∧ XV.sl 0 21 0 0 = XV.sl 0 21 0 (lenR (fndN q.g n k x.i)) ∧ false = fndB q.g n x.i ∧ (XV.fz q.n 17 fun (i : Nat) => (hostX (q.g i))) = sqH q ∧ (↑q.n : Int) = (↑q.n : Int) ∧ (0 : Int) = (↑x.i : Int) ∧ (((38 : Nat) = (38 : TypeId) ∧ true = true ∧ (21 : Nat) = (21 : Nat)) ∧ (0 : Nat) = lenR (fndN q.g n k x.i) ∧ ∀ (j : Nat), j < (0 : Nat) → [] = (recX (getR (fndN q.g n k x.i) j))) ∧ True) ∧ ∀ (x : IL), x.i.le q.n → (decide ((↑x.i : Int) < (↑q.n : Int)) = true → (0 : Int) ≤ (↑x.i : Int) ∧ (↑x.i : Int) < (↑q.n : Int) ∧ (b16 (A16.f (q.g (↑x.i : Int).toNat).a)) ∧ (decide ((rev (A16.f (q.g (↑x.i : Int).toNat).a)) = n) = true → ((k == (12 : Int)) = true → (0 : Int) ≤ (0 : Int) ∧ (0 : Int) < (↑(q.g (↑x.i : Int).toNat).q.n : Int) ∧ lenR (fndN q.g n k x.i) = lenR (fndN q.g n k x.i) ∧ (lenR (fndN q.g n k x.i) + (1 : Nat)) * (80 : Nat) ≤ (140737488355328 : Nat) ∧ lenR (fndN q.g n k x.i) + (1 : Nat) ≤ (140737488355328 : Nat) ∧ in64 ((↑x.i : Int) + (1 : Int)) ∧ ∃ (x' : (fnI q n k).σ), x'.i.le q.n ∧ q.n - x'.i < q.n - x.i ∧ true = true ∧ n = n ∧ k = k ∧ XV.sl 0 21 0 (lenR (fndN q.g n k x.i) + (1 : Nat)) = XV.sl 0 21 0 (lenR (fndN q.g n k x'.i)) ∧ true = fndB q.g n x'.i ∧ (XV.fz q.n 17 fun (i : Nat) => (hostX (q.g i))) = sqH q ∧ (↑q.n : Int) = (↑q.n : Int) ∧ (↑x.i : Int) + (1 : Int) = (↑x'.i : Int) ∧ (((38 : TypeId) = (38 : TypeId) ∧ true = true ∧ (21 : Nat) = (21 : Nat)) ∧ lenR (fndN q.g n k x.i) + (1 : Nat) = lenR (fndN q.g n k x'.i) ∧ ∀ (j : Nat), j < lenR (fndN q.g n k x.i) + (1 : Nat) → [XT (bif j.blt (lenR (fndN q.g n k x.i)) then (getR (fndN q.g n k x.i) j).n else n), Bool.rec (XI k) (XI ((getR (fndN q.g n k x.i) j).k)) (j.blt (lenR (fndN q.g n k x.i))), Bool.rec (XI 0) (XI ((getR (fndN q.g n k x.i) j).ttl)) (j.blt (lenR (fndN q.g n k x.i))), X8 (bif j.blt (lenR (fndN q.g n k x.i)) then (getR (fndN q.g n k x.i) j).a.x0 else (0 : Int)), X8 (bif j.blt (lenR (fndN q.g n k x.i)) then (getR (fndN q.g n k x.i) j).a.x1 else (0 : Int)), X8 (bif j.blt (lenR (fndN q.g n k x.i)) then (getR (fndN q.g n k x.i) j).a.x2 else (0 : Int)), X8 (bif j.blt (lenR (fndN q.g n k x.i)) then (getR (fndN q.g n k x.i) j).a.x3 else (0 : Int)), X8 (bif j.blt (lenR (fndN q.g n k x.i)) then (getR (fndN q.g n k x.i) j).a.x4 else (0 : Int)), X8 (bif j.blt (lenR (fndN q.g n k x.i)) then (getR (fndN q.g n k x.i) j).a.x5 else (0 : Int)), X8 (bif j.blt (lenR (fndN q.g n k x.i)) then (getR (fndN q.g n k x.i) j).a.x6 else (0 : Int)), X8 (bif j.blt (lenR (fndN q.g n k x.i)) then (getR (fndN q.g n k x.i) j).a.x7 else (0 : Int)), X8 (bif j.blt (lenR (fndN q.g n k x.i)) then (getR (fndN q.g n k x.i) j).a.x8 else (0 : Int)), X8 (bif j.blt (lenR (fndN q.g n k x.i)) then (getR (fndN q.g n k x.i) j).a.x9 else (0 : Int)), X8 (bif j.blt (lenR (fndN q.g n k x.i)) then (getR (fndN q.g n k x.i) j).a.x10 else (0 : Int)), X8 (bif j.blt (lenR (fndN q.g n k x.i)) then (getR (fndN q.g n k x.i) j).a.x11 else (0 : Int)), X8 (bif j.blt (lenR (fndN q.g n k x.i)) then (getR (fndN q.g n k x.i) j).a.x12 else (0 : Int)), X8 (bif j.blt (lenR (fndN q.g n k x.i)) then (getR (fndN q.g n k x.i) j).a.x13 else (0 : Int)), X8 (bif j.blt (lenR (fndN q.g n k x.i)) then (getR (fndN q.g n k x.i) j).a.x14 else (0 : Int)), X8 (bif j.blt (lenR (fndN q.g n k x.i)) then (getR (fndN q.g n k x.i) j).a.x15 else (0 : Int)), XT (bif j.blt (lenR (fndN q.g n k x.i)) then (getR (fndN q.g n k x.i) j).t else (q.g (↑x.i : Int).toNat).q.g ((0 : Nat))), XT (bif j.blt (lenR (fndN q.g n k x.i)) then (getR (fndN q.g n k x.i) j).d else ⟨#[]⟩)] = (recX (getR (fndN q.g n k x'.i) j))) ∧ True) ∧ ((k == (12 : Int)) = false → in64 ((↑x.i : Int) + (1 : Int)) ∧ ∃ (x' : (fnI q n k).σ), x'.i.le q.n ∧ q.n - x'.i < q.n - x.i ∧ true = true ∧ n = n ∧ k = k ∧ XV.sl 0 21 0 (lenR (fndN q.g n k x.i)) = XV.sl 0 21 0 (lenR (fndN q.g n k x'.i)) ∧ true = fndB q.g n x'.i ∧ (XV.fz q.n 17 fun (i : Nat) => (hostX (q.g i))) = sqH q ∧ (↑q.n : Int) = (↑q.n : Int) ∧ (↑x.i : Int) + (1 : Int) = (↑x'.i : Int) ∧ (((38 : TypeId) = (38 : TypeId) ∧ true = true ∧ (21 : Nat) = (21 : Nat)) ∧ lenR (fndN q.g n k x.i) = lenR (fndN q.g n k x'.i) ∧ ∀ (j : Nat), j < lenR (fndN q.g n k x.i) → (recX (getR (fndN q.g n k x.i) j)) = (recX (getR (fndN q.g n k x'.i) j))) ∧ True)) ∧ (decide ((rev (A16.f (q.g (↑x.i : Int).toNat).a)) = n) = false → (∀ (i : Nat), i < (q.g (↑x.i : Int).toNat).q.n → [XT ((q.g (↑x.i : Int).toNat).q.g i)] = [XT ((q.g (↑x.i : Int).toNat).q.g i)]) ∧ (q.g (↑x.i : Int).toNat).q.n ≤ (1000000 : Nat) ∧ (hasF (q.g (↑x.i : Int).toNat).q.g n (q.g (↑x.i : Int).toNat).q.n = true → (((k == (1 : Int) && is4 (A16.f (q.g (↑x.i : Int).toNat).a)) || k == (28 : Int) && !is4 (A16.f (q.g (↑x.i : Int).toNat).a)) = true → lenR (fndN q.g n k x.i) = lenR (fndN q.g n k x.i) ∧ (lenR (fndN q.g n k x.i) + (1 : Nat)) * (80 : Nat) ≤ (140737488355328 : Nat) ∧ lenR (fndN q.g n k x.i) + (1 : Nat) ≤ (140737488355328 : Nat) ∧ in64 ((↑x.i : Int) + (1 : Int)) ∧ ∃ (x' : (fnI q n k).σ), x'.i.le q.n ∧ q.n - x'.i < q.n - x.i ∧ true = true ∧ n = n ∧ k = k ∧ XV.sl 0 21 0 (lenR (fndN q.g n k x.i) + (1 : Nat)) = XV.sl 0 21 0 (lenR (fndN q.g n k x'.i)) ∧ true = fndB q.g n x'.i ∧ (XV.fz q.n 17 fun (i : Nat) => (hostX (q.g i))) = sqH q ∧ (↑q.n : Int) = (↑q.n : Int) ∧ (↑x.i : Int) + (1 : Int) = (↑x'.i : Int) ∧ (((38 : TypeId) = (38 : TypeId) ∧ true = true ∧ (21 : Nat) = (21 : Nat)) ∧ lenR (fndN q.g n k x.i) + (1 : Nat) = lenR (fndN q.g n k x'.i) ∧ ∀ (j : Nat), j < lenR (fndN q.g n k x.i) + (1 : Nat) → [XT (bif j.blt (lenR (fndN q.g n k x.i)) then (getR (fndN q.g n k x.i) j).n else n), Bool.rec (XI k) (XI ((getR (fndN q.g n k x.i) j).k)) (j.blt (lenR (fndN q.g n k x.i))), Bool.rec (XI 0) (XI ((getR (fndN q.g n k x.i) j).ttl)) (j.blt (lenR (fndN q.g n k x.i))), X8 (bif j.blt (lenR (fndN q.g n k x.i)) then (getR (fndN q.g n k x.i) j).a.x0 else (q.g (↑x.i : Int).toNat).a.x0), X8 (bif j.blt (lenR (fndN q.g n k x.i)) then (getR (fndN q.g n k x.i) j).a.x1 else (q.g (↑x.i : Int).toNat).a.x1), X8 (bif j.blt (lenR (fndN q.g n k x.i)) then (getR (fndN q.g n k x.i) j).a.x2 else (q.g (↑x.i : Int).toNat).a.x2), X8 (bif j.blt (lenR (fndN q.g n k x.i)) then (getR (fndN q.g n k x.i) j).a.x3 else (q.g (↑x.i : Int).toNat).a.x3), X8 (bif j.blt (lenR (fndN q.g n k x.i)) then (getR (fndN q.g n k x.i) j).a.x4 else (q.g (↑x.i : Int).toNat).a.x4), X8 (bif j.blt (lenR (fndN q.g n k x.i)) then (getR (fndN q.g n k x.i) j).a.x5 else (q.g (↑x.i : Int).toNat).a.x5), X8 (bif j.blt (lenR (fndN q.g n k x.i)) then (getR (fndN q.g n k x.i) j).a.x6 else (q.g (↑x.i : Int).toNat).a.x6), X8 (bif j.blt (lenR (fndN q.g n k x.i)) then (getR (fndN q.g n k x.i) j).a.x7 else (q.g (↑x.i : Int).toNat).a.x7), X8 (bif j.blt (lenR (fndN q.g n k x.i)) then (getR (fndN q.g n k x.i) j).a.x8 else (q.g (↑x.i : Int).toNat).a.x8), X8 (bif j.blt (lenR (fndN q.g n k x.i)) then (getR (fndN q.g n k x.i) j).a.x9 else (q.g (↑x.i : Int).toNat).a.x9), X8 (bif j.blt (lenR (fndN q.g n k x.i)) then (getR (fndN q.g n k x.i) j).a.x10 else (q.g (↑x.i : Int).toNat).a.x10), X8 (bif j.blt (lenR (fndN q.g n k x.i)) then (getR (fndN q.g n k x.i) j).a.x11 else (q.g (↑x.i : Int).toNat).a.x11), X8 (bif j.blt (lenR (fndN q.g n k x.i)) then (getR (fndN q.g n k x.i) j).a.x12 else (q.g (↑x.i : Int).toNat).a.x12), X8 (bif j.blt (lenR (fndN q.g n k x.i)) then (getR (fndN q.g n k x.i) j).a.x13 else (q.g (↑x.i : Int).toNat).a.x13), X8 (bif j.blt (lenR (fndN q.g n k x.i)) then (getR (fndN q.g n k x.i) j).a.x14 else (q.g (↑x.i : Int).toNat).a.x14), X8 (bif j.blt (lenR (fndN q.g n k x.i)) then (getR (fndN q.g n k x.i) j).a.x15 else (q.g (↑x.i : Int).toNat).a.x15), XT (bif j.blt (lenR (fndN q.g n k x.i)) then (getR (fndN q.g n k x.i) j).t else ⟨#[]⟩), XT (bif j.blt (lenR (fndN q.g n k x.i)) then (getR (fndN q.g n k x.i) j).d else ⟨#[]⟩)] = (recX (getR (fndN q.g n k x'.i) j))) ∧ True) ∧ (((k == (1 : Int) && is4 (A16.f (q.g (↑x.i : Int).toNat).a)) || k == (28 : Int) && !is4 (A16.f (q.g (↑x.i : Int).toNat).a)) = false → in64 ((↑x.i : Int) + (1 : Int)) ∧ ∃ (x' : (fnI q n k).σ), x'.i.le q.n ∧ q.n - x'.i < q.n - x.i ∧ true = true ∧ n = n ∧ k = k ∧ XV.sl 0 21 0 (lenR (fndN q.g n k x.i)) = XV.sl 0 21 0 (lenR (fndN q.g n k x'.i)) ∧ true = fndB q.g n x'.i ∧ (XV.fz q.n 17 fun (i : Nat) => (hostX (q.g i))) = sqH q ∧ (↑q.n : Int) = (↑q.n : Int) ∧ (↑x.i : Int) + (1 : Int) = (↑x'.i : Int) ∧ (((38 : TypeId) = (38 : TypeId) ∧ true = true ∧ (21 : Nat) = (21 : Nat)) ∧ lenR (fndN q.g n k x.i) = lenR (fndN q.g n k x'.i) ∧ ∀ (j : Nat), j < lenR (fndN q.g n k x.i) → (recX (getR (fndN q.g n k x.i) j)) = (recX (getR (fndN q.g n k x'.i) j))) ∧ True)) ∧ (hasF (q.g (↑x.i : Int).toNat).q.g n (q.g (↑x.i : Int).toNat).q.n = false → in64 ((↑x.i : Int) + (1 : Int)) ∧ ∃ (x' : (fnI q n k).σ), x'.i.le q.n ∧ q.n - x'.i < q.n - x.i ∧ true = true ∧ n = n ∧ k = k ∧ XV.sl 0 21 0 (lenR (fndN q.g n k x.i)) = XV.sl 0 21 0 (lenR (fndN q.g n k x'.i)) ∧ fndB q.g n x.i = fndB q.g n x'.i ∧ (XV.fz q.n 17 fun (i : Nat) => (hostX (q.g i))) = sqH q ∧ (↑q.n : Int) = (↑q.n : Int) ∧ (↑x.i : Int) + (1 : Int) = (↑x'.i : Int) ∧ (((38 : TypeId) = (38 : TypeId) ∧ true = true ∧ (21 : Nat) = (21 : Nat)) ∧ lenR (fndN q.g n k x.i) = lenR (fndN q.g n k x'.i) ∧ ∀ (j : Nat), j < lenR (fndN q.g n k x.i) → (recX (getR (fndN q.g n k x.i) j)) = (recX (getR (fndN q.g n k x'.i) j))) ∧ True))) ∧ (decide ((↑x.i : Int) < (↑q.n : Int)) = false → lenR (fndN q.g n k x.i) = lenR (fndN q.g n k x.i) ∧ (0 : Int) ≤ (0 : Int) ∧ (0 : Int) ≤ imin (↑(lenR (fndN q.g n k x.i)) : Int) 32 ∧ imin (↑(lenR (fndN q.g n k x.i)) : Int) 32 ≤ (↑(lenR (fndN q.g n k x.i)) : Int) ∧ ((21 : Nat) = (21 : Nat) ∧ (imin (↑(lenR (fndN q.g n k x.i)) : Int) 32 - (0 : Int)).toNat = lenR (fndR q n k) ∧ ∀ (j : Nat), j < (imin (↑(lenR (fndN q.g n k x.i)) : Int) 32 - (0 : Int)).toNat → (recX (getR (fndN q.g n k x.i) ((0 : Nat) + j))) = (recX (getR (fndR q n k) j))) ∧ fndB q.g n x.i = fndB q.g n q.n ∧ True)
theorem fnV_eq (q : Sq Hst) (n : ByteArray) (k : Int) : fnV q n k = (funC cxf' Tryz.f12 (mkSc (fnE q n k) (bodyOf Tryz.f12)) [sqH q, XT n, XI k] (.tup [recsL (fndR q n k), XB (fndB q.g n q.n)])) := by kernel_rfl
theorem fndO_len (h : Hst) (n : ByteArray) (k : Int) : (fndO h n k).length ≤ 1 := by
 unfold fndO
 split
 ·split <;> simp
 ·split
  ·split <;> simp
  ·simp
theorem fndN_len (g : Nat → Hst) (n : ByteArray) (k : Int) : ∀ i, lenR (fndN g n k i) ≤ i
 | 0 => Nat.le_refl _
 | i + 1 => by
  have ih := fndN_len g n k i
  have h1 := fndO_len (g i) n k
  unfold lenR at *
  rw [fndN, List.length_append]
  omega
theorem getR_app (o : List Rec) (h : Rec) (j : Nat) (hj : j < lenR o + 1) : getR (o ++ [h]) j = if j < lenR o then getR o j else h := by
 unfold getR lenR at *
 split
 ·rename_i k
  rw [List.getD_eq_getElem?_getD, List.getD_eq_getElem?_getD, List.getElem?_append_left k]
 ·rename_i k
  rw [List.getD_eq_getElem?_getD, List.getElem?_append_right (by omega), show j - o.length = 0 by omega]
  rfl
theorem lenR_app (o : List Rec) (h : Rec) : lenR o + 1 = lenR (o ++ [h]) := by
 unfold lenR
 rw [List.length_append, List.length_singleton]
set_option maxHeartbeats 2000000 in
theorem fn_v (q : Sq Hst) (n : ByteArray) (k : Int) (hn : q.n ≤ 1000000) (hq : ∀ i, i < q.n → b16 (q.g i).a.f ∧ 1 ≤ (q.g i).q.n ∧ (q.g i).q.n ≤ 1000000) : fnV q n k := by
 unfold fnV
 refine ⟨⟨⟨0⟩, Nat.zero_le _, rfl, rfl, rfl, rfl, rfl, rfl, rfl, rfl, ⟨⟨rfl, rfl, rfl⟩, rfl, fun j hj => absurd hj (Nat.not_lt_zero _)⟩, trivial⟩, ?_⟩
 rintro ⟨i⟩ hi
 have hi : i ≤ q.n := hi
 dsimp only
 have hl := fndN_len q.g n k i
 refine ⟨fun h => ?_, fun h => ?_⟩
 ·have h : (i : Int) < q.n := of_decide_eq_true h
  rw [Int.toNat_natCast]
  obtain ⟨g1, g2, g3⟩ := hq i (by omega)
  have hs : fndN q.g n k (i + 1) = fndN q.g n k i ++ fndO (q.g i) n k := rfl
  have hb : fndB q.g n (i + 1) = (fndB q.g n i || fndT (q.g i) n) := rfl
  have no : fndO (q.g i) n k = [] → fndN q.g n k (i + 1) = fndN q.g n k i := fun e => by rw [hs, e, List.append_nil]
  refine ⟨by omega, h, g1, fun h1 => ?_, fun h1 => ?_⟩
  ·have h1' : rev (q.g i).a.f = n := of_decide_eq_true h1
   have ht : true = fndB q.g n (i + 1) := by rw [hb, fndT, h1, Bool.true_or, Bool.or_true]
   refine ⟨fun h2 => ?_, fun h2 => ?_⟩
   ·have e : fndN q.g n k (i + 1) = fndN q.g n k i ++ [⟨n, k, 0, z16, (q.g i).q.g 0, ⟨#[]⟩⟩] := by rw [hs, fndO, if_pos h1', if_pos h2]
    have el : lenR (fndN q.g n k i) + 1 = lenR (fndN q.g n k (i + 1)) := by rw [e]; exact lenR_app _ _
    refine ⟨by decide, by omega, rfl, by omega, by omega, by unfold in64; omega, ⟨i + 1⟩, (show i + 1 ≤ q.n by omega), (show q.n - (i + 1) < q.n - i by omega), rfl, rfl, rfl, congrArg (XV.sl 0 21 0) el, ht, rfl, rfl, rfl, ⟨⟨rfl, rfl, rfl⟩, el, fun j hj => ?_⟩, trivial⟩
    show _ = recX (getR (fndN q.g n k (i + 1)) j)
    rw [e, getR_app _ _ _ hj, bltN]
    by_cases hjl : j < lenR (fndN q.g n k i)
    ·rw [decide_eq_true hjl, if_pos hjl]; kernel_rfl
    ·rw [decide_eq_false hjl, if_neg hjl]; kernel_rfl
   ·have e := no (by rw [fndO, if_pos h1', if_neg (by rw [h2]; decide)])
    exact ⟨by unfold in64; omega, ⟨i + 1⟩, (show i + 1 ≤ q.n by omega), (show q.n - (i + 1) < q.n - i by omega), rfl, rfl, rfl, congrArg (fun o => XV.sl 0 21 0 (lenR o)) e.symm, ht, rfl, rfl, rfl, ⟨⟨rfl, rfl, rfl⟩, congrArg lenR e.symm, fun j _ => congrArg (fun o => recX (getR o j)) e.symm⟩, trivial⟩
  ·have h1' : ¬ rev (q.g i).a.f = n := of_decide_eq_false h1
   refine ⟨fun _ _ => rfl, g3, fun h2 => ?_, fun h2 => ?_⟩
   ·have ht : true = fndB q.g n (i + 1) := by rw [hb, fndT, h2, Bool.or_true, Bool.or_true]
    refine ⟨fun h3 => ?_, fun h3 => ?_⟩
    ·have e : fndN q.g n k (i + 1) = fndN q.g n k i ++ [⟨n, k, 0, (q.g i).a, ⟨#[]⟩, ⟨#[]⟩⟩] := by rw [hs, fndO, if_neg h1', if_pos h2, if_pos (show kdB (q.g i) k = true from h3)]
     have el : lenR (fndN q.g n k i) + 1 = lenR (fndN q.g n k (i + 1)) := by rw [e]; exact lenR_app _ _
     refine ⟨rfl, by omega, by omega, by unfold in64; omega, ⟨i + 1⟩, (show i + 1 ≤ q.n by omega), (show q.n - (i + 1) < q.n - i by omega), rfl, rfl, rfl, congrArg (XV.sl 0 21 0) el, ht, rfl, rfl, rfl, ⟨⟨rfl, rfl, rfl⟩, el, fun j hj => ?_⟩, trivial⟩
     show _ = recX (getR (fndN q.g n k (i + 1)) j)
     rw [e, getR_app _ _ _ hj, bltN]
     by_cases hjl : j < lenR (fndN q.g n k i)
     ·rw [decide_eq_true hjl, if_pos hjl]; kernel_rfl
     ·rw [decide_eq_false hjl, if_neg hjl]; kernel_rfl
    ·have e := no (by rw [fndO, if_neg h1', if_pos h2, if_neg (by rw [show kdB (q.g i) k = false from h3]; decide)])
     exact ⟨by unfold in64; omega, ⟨i + 1⟩, (show i + 1 ≤ q.n by omega), (show q.n - (i + 1) < q.n - i by omega), rfl, rfl, rfl, congrArg (fun o => XV.sl 0 21 0 (lenR o)) e.symm, ht, rfl, rfl, rfl, ⟨⟨rfl, rfl, rfl⟩, congrArg lenR e.symm, fun j _ => congrArg (fun o => recX (getR o j)) e.symm⟩, trivial⟩
   ·have e := no (by rw [fndO, if_neg h1', if_neg (by rw [h2]; decide)])
    have ht : fndB q.g n i = fndB q.g n (i + 1) := by rw [hb, fndT, h1, h2, Bool.or_false, Bool.or_false]
    exact ⟨by unfold in64; omega, ⟨i + 1⟩, (show i + 1 ≤ q.n by omega), (show q.n - (i + 1) < q.n - i by omega), rfl, rfl, rfl, congrArg (fun o => XV.sl 0 21 0 (lenR o)) e.symm, ht, rfl, rfl, rfl, ⟨⟨rfl, rfl, rfl⟩, congrArg lenR e.symm, fun j _ => congrArg (fun o => recX (getR o j)) e.symm⟩, trivial⟩
 ·have h : ¬ (i : Int) < q.n := of_decide_eq_false h
  obtain rfl : i = q.n := by omega
  have hm : imin ((lenR (fndN q.g n k q.n) : Nat) : Int) 32 = ((min (lenR (fndN q.g n k q.n)) 32 : Nat) : Int) := by unfold imin; split <;> omega
  have hr : lenR (fndR q n k) = min (lenR (fndN q.g n k q.n)) 32 := by
   unfold lenR fndR
   rw [List.length_take, Nat.min_comm]
  rw [hm]
  refine ⟨rfl, by decide, by omega, by omega, ⟨rfl, by rw [hr]; omega, fun j hj => ?_⟩, rfl, trivial⟩
  show recX (getR (fndN q.g n k q.n) (0 + j)) = recX (getR (fndR q n k) j)
  rw [Nat.zero_add]
  have : getR (fndR q n k) j = getR (fndN q.g n k q.n) j := by
   unfold getR fndR
   rw [List.getD_eq_getElem?_getD, List.getD_eq_getElem?_getD, List.getElem?_take_of_lt (by omega)]
  rw [this]
def fnC : CT := C3 dHs dStr dInt (fun q _ _ => [q.n ≤ 1000000, ∀ i, i < q.n → b16 (q.g i).a.f ∧ 1 ≤ (q.g i).q.n ∧ (q.g i).q.n ≤ 1000000]) fun q n k => .tup [recsL (fndR q n k), XB (fndB q.g n q.n)]
theorem fn_ok : CTok Tryz.prog 12 fnC := C3_ok ((cx0_ok.addC is4L_ok).addC has_ok |>.addC rev_ok) Tryz.func12 rfl (by decide) dSl_ok dStr_eq.ok dInt_eq.ok (by kernel_rfl) (fun _ _ _ => rfl) fun q n k hc => exv (fnV_eq q n k) (fn_v q n k (hc _ (.head _)) (hc _ (.tail _ (.head _))))
end Go.Proofs.YtkjcoehblekpdaaGreatDoorAv
namespace Go.Proofs.YtkjcoehblekpdaaGreatDoorAv
open Go Go.RowKit
theorem prsN_mem (l : List ByteArray) : ∀ i, ∀ h ∈ prsN l i, ∃ j, j < i ∧ lnOk (words (l.getD j ⟨#[]⟩)) = true ∧ h = lnH (words (l.getD j ⟨#[]⟩))
 | 0, h, hm => by cases hm
 | i + 1, h, hm => by
  unfold prsN putH at hm
  split at hm
  ·rename_i k
   rcases List.mem_append.1 hm with hm | hm
   ·obtain ⟨j, hj, e⟩ := prsN_mem l i h hm
    exact ⟨j, by omega, e⟩
   ·exact ⟨i, by omega, k.2, List.mem_singleton.1 hm⟩
  ·obtain ⟨j, hj, e⟩ := prsN_mem l i h hm
   exact ⟨j, by omega, e⟩
theorem lnH_b (w : List ByteArray) : b16 (lnH w).a.f := b16_l (parA_b _)
structure Red (n : Nat) (h : Hst) : Prop where
 b : b16 h.a.f
 one : 1 ≤ h.q.n
 le : h.q.n ≤ n
 out : ∀ i, i < h.q.n → ∃ x, (toA x).2 = 0 ∧ h.q.g i = (toA x).1
theorem lnH_red (n : Nat) (w : List ByteArray) (h1 : lnOk w = true) (hl : w.length ≤ n + 1) : Red n (lnH w) := by
 unfold lnOk at h1
 rw [Bool.and_eq_true, Bool.and_eq_true, decide_eq_true_eq, decide_eq_true_eq] at h1
 obtain ⟨h1, h2, h3⟩ := h1
 have e : (lnH w).q.n = w.length - 1 := rfl
 refine ⟨lnH_b _, by rw [e]; omega, by rw [e]; omega, fun i hi => ?_⟩
 rw [e] at hi
 have h4 := oksN_le _ _ (i + 1) (by omega) h3
 rw [oksN, Bool.and_eq_true, decide_eq_true_eq] at h4
 exact ⟨_, h4.2, rfl⟩
theorem prsH_red (s : ByteArray) : ∀ h ∈ prsH s, Red s.size h := fun h hm => by
 obtain ⟨j, hj, h1, rfl⟩ := prsN_mem _ _ h hm
 have hsz : ((linesS s).getD j ⟨#[]⟩).size ≤ s.size := getD_all (P := fun x : ByteArray => x.size ≤ s.size) (Nat.zero_le _) (fun x hx => splitS_each s 10 x hx) j
 have hl := words_len ((linesS s).getD j ⟨#[]⟩)
 exact lnH_red _ _ h1 (by omega)
theorem getH_mem {l : List Hst} {i : Nat} (h : i < lenH l) : getH l i ∈ l := by
 unfold getH lenH at *
 rw [List.getD_eq_getElem?_getD, List.getElem?_eq_getElem h]
 exact List.getElem_mem _
theorem prsH_at (s : ByteArray) (i : Nat) (h : i < lenH (prsH s)) : Red s.size (getH (prsH s) i) := prsH_red s _ (getH_mem h)
theorem prsH_len (s : ByteArray) : lenH (prsH s) ≤ 64 := lenH_prsN _ _
theorem prsH_fn (s : ByteArray) (hs : s.size ≤ 1000000) : ∀ i, i < lenH (prsH s) → b16 (getH (prsH s) i).a.f ∧ 1 ≤ (getH (prsH s) i).q.n ∧ (getH (prsH s) i).q.n ≤ 1000000 := fun i hi => by
 have h := prsH_at s i hi
 exact ⟨h.b, h.one, by have := h.le; omega⟩
def fndS (l : List Hst) : Sq Hst := ⟨lenH l, getH l⟩
def cx1 : Cx := { cx0 with C := [(11, prsC), (12, fnC), (19, is4L), (20, dotC)] }
theorem cx1_ok : cx1.ok Tryz.prog := (((cx0_ok.addC dot_ok).addC is4L_ok).addC fn_ok).addC prs_ok
def hfitV_a :=
 (prsH ⟨#[49, 50, 55, 46, 48, 46, 48, 46, 49, 9, 108, 111, 99, 97, 108, 104, 111, 115, 116, 32, 108, 111, 32, 35, 32, 120]⟩)
def hfitV_b :=
 (getR (fndR { n := lenH hfitV_a, g := getH hfitV_a : Sq Hst } ⟨#[108, 111]⟩ 1) ((0 : Nat)))
def hfitV_c :=
 (↑(lenR (fndR { n := lenH hfitV_a, g := fun (i : Nat) => rH ((fun (i : Nat) => hostX (getH hfitV_a i)) i) : Sq Hst } ⟨#[108, 111]⟩ 1)) : Int)
def hfitV  : Prop :=
 (26 : Nat) ≤ (1000000 : Nat) ∧ (∀ (i : Nat), i < lenH hfitV_a → (hostX (getH hfitV_a i)) = (hostX (getH hfitV_a i))) ∧ lenH hfitV_a ≤ (1000000 : Nat) ∧ (∀ (i : Nat), i < lenH hfitV_a → b16 (getH hfitV_a i).a.f ∧ (1 : Nat) ≤ (getH hfitV_a i).q.n ∧ (getH hfitV_a i).q.n ≤ (1000000 : Nat)) ∧ (((↑(lenH hfitV_a) : Int) == (1 : Int) && hfitV_c == (1 : Int) && fndB (getH hfitV_a) ⟨#[108, 111]⟩ (lenH hfitV_a)) = true → (0 : Int) ≤ (0 : Int)) ∧ (((↑(lenH hfitV_a) : Int) == (1 : Int) && hfitV_c == (1 : Int) && fndB (getH hfitV_a) ⟨#[108, 111]⟩ (lenH hfitV_a)) = true → (0 : Int) < hfitV_c) ∧ (((↑(lenH hfitV_a) : Int) == (1 : Int) && hfitV_c == (1 : Int) && fndB (getH hfitV_a) ⟨#[108, 111]⟩ (lenH hfitV_a) && is4 fun (i : Nat) => [hfitV_b.a.x0, hfitV_b.a.x1, hfitV_b.a.x2, hfitV_b.a.x3, hfitV_b.a.x4, hfitV_b.a.x5, hfitV_b.a.x6, hfitV_b.a.x7, hfitV_b.a.x8, hfitV_b.a.x9, hfitV_b.a.x10, hfitV_b.a.x11, hfitV_b.a.x12, hfitV_b.a.x13, hfitV_b.a.x14, hfitV_b.a.x15].getD i 0) && cntB ⟨#[97, 46, 98]⟩ ⟨#[46]⟩ == (1 : Int)) = true
theorem hfitV_eq  : hfitV  = (funC cx1 Tryz.f9 .nil [] (XB true)) := by kernel_rfl
def fitT : ByteArray := ⟨#[49, 50, 55, 46, 48, 46, 48, 46, 49, 9, 108, 111, 99, 97, 108, 104, 111, 115, 116, 32, 108, 111, 32, 35, 32, 120]⟩
theorem hfit_d : lenH (prsH fitT) = 1 ∧ lenR (fndR (fndS (prsH fitT)) ⟨#[108, 111]⟩ 1) = 1 ∧ fndB (getH (prsH fitT)) ⟨#[108, 111]⟩ (lenH (prsH fitT)) = true ∧ is4 (getR (fndR (fndS (prsH fitT)) ⟨#[108, 111]⟩ 1) 0).a.f = true ∧ cntB ⟨#[97, 46, 98]⟩ ⟨#[46]⟩ = 1 := by decide +kernel
theorem hfit_v : hfitV := by
 unfold hfitV hfitV_c hfitV_b hfitV_a
 obtain ⟨h1, h2, h3, h4, h5⟩ := hfit_d
 have h6 := prsH_fn fitT (by decide)
 refine ⟨by decide, fun _ _ => rfl, ?_, h6, fun _ => by decide, fun _ => ?_, ?_⟩
 ·show lenH (prsH fitT) ≤ 1000000
  rw [h1]; decide
 ·show (0 : Int) < (lenR (fndR (fndS (prsH fitT)) ⟨#[108, 111]⟩ 1) : Int)
  rw [h2]; decide
 ·show (((((lenH (prsH fitT) : Nat) : Int) == 1 && ((lenR (fndR (fndS (prsH fitT)) ⟨#[108, 111]⟩ 1) : Nat) : Int) == 1 && fndB (getH (prsH fitT)) ⟨#[108, 111]⟩ (lenH (prsH fitT)) && is4 (getR (fndR (fndS (prsH fitT)) ⟨#[108, 111]⟩ 1) 0).a.f) && cntB ⟨#[97, 46, 98]⟩ ⟨#[46]⟩ == 1)) = true
  rw [h3, h1, h2, h4, h5]
  rfl
def hfitC : CT := C0 [] (XB true)
theorem hfit_ok : CTok Tryz.prog 9 hfitC := C0_ok cx1_ok Tryz.func9 rfl (by decide) rfl fun _ => exv hfitV_eq hfit_v
def ligV (s : ByteArray) : Prop :=
 decide ((↑s.size : Int) ≤ (2000 : Int)) = decide ((↑s.size : Int) ≤ (2000 : Int))
theorem ligV_eq (s : ByteArray) : ligV s = (funC cx0 Tryz.f10 .nil [XT s] (XB (decide ((s.size : Int) ≤ 2000)))) := by kernel_rfl
theorem lig_v (s : ByteArray) : ligV s := rfl
def ligC : CT := C1 dStr (fun _ => []) fun s => XB (decide ((s.size : Int) ≤ 2000))
theorem lig_ok : CTok Tryz.prog 10 ligC := C1_ok cx0_ok Tryz.func10 rfl (by decide) dStr_eq.ok (by kernel_rfl) (fun _ => rfl) fun s _ => exv (ligV_eq s) (lig_v s)
end Go.Proofs.YtkjcoehblekpdaaGreatDoorAv
namespace Go.Proofs.YtkjcoehblekpdaaGreatDoorAv
open Go Go.RowKit
def lnsL (l : List ByteArray) : List Hst := (l.filter fun x => lnOk (words x)).map fun x => lnH (words x)
theorem lnsL_app (l m : List ByteArray) : lnsL (l ++ m) = lnsL l ++ lnsL m := by unfold lnsL; rw [List.filter_append, List.map_append]
theorem prsN_eq (l : List ByteArray) : ∀ i, i ≤ l.length → prsN l i = (lnsL (l.take i)).take 64
 | 0, _ => rfl
 | i + 1, h => by
  have ih := prsN_eq l i (by omega)
  have ht := take_snoc' l i ⟨#[]⟩ (by omega)
  rw [ht, lnsL_app, prsN, ih, putH]
  have e : lnsL [l.getD i ⟨#[]⟩] = if lnOk (words (l.getD i ⟨#[]⟩)) = true then [lnH (words (l.getD i ⟨#[]⟩))] else [] := by
   unfold lnsL
   rw [List.filter_cons]
   split <;> rfl
  rw [e]
  by_cases h2 : lnOk (words (l.getD i ⟨#[]⟩)) = true
  ·rw [if_pos h2]
   by_cases h3 : lenH ((lnsL (l.take i)).take 64) = 64
   ·rw [if_neg (fun k => k.1 h3)]
    unfold lenH at h3
    rw [List.length_take] at h3
    rw [List.take_append_of_le_length (by omega)]
   ·rw [if_pos ⟨h3, h2⟩]
    unfold lenH at h3
    rw [List.length_take] at h3
    have t1 : (lnsL (l.take i)).take 64 = lnsL (l.take i) := List.take_of_length_le (by omega)
    rw [t1]
    exact (List.take_of_length_le (by rw [List.length_append, List.length_singleton]; omega)).symm
  ·rw [if_neg h2, if_neg (fun k => h2 k.2), List.append_nil]
theorem prsH_eq (s : ByteArray) : prsH s = (lnsL (linesS s)).take 64 := by
 have := prsN_eq (linesS s) _ (Nat.le_refl _)
 rw [List.take_length] at this
 exact this
theorem sp_hd (c : UInt8) (l : List UInt8) : split1 c (c :: l) = [] :: split1 c l := by rw [split1, if_pos rfl]
theorem sp_tl {c x : UInt8} (h : x ≠ c) {l y : List UInt8} {t : List (List UInt8)} (hs : split1 c l = y :: t) : split1 c (x :: l) = (x :: y) :: t := by rw [split1, if_neg h, hs]
theorem sp_appC (c : UInt8) (b : List UInt8) : ∀ a : List UInt8, split1 c (a ++ c :: b) = split1 c a ++ split1 c b
 | [] => sp_hd c b
 | x :: a => by
  have ih := sp_appC c b a
  rw [List.cons_append]
  by_cases h : x = c
  ·rw [h, sp_hd, sp_hd, ih]; rfl
  ·cases e : split1 c a with
   | nil => exact absurd e (split1_ne c a)
   | cons y t =>
    rw [e] at ih
    rw [sp_tl h e, sp_tl h ih]
    rfl
end Go.Proofs.YtkjcoehblekpdaaGreatDoorAv
namespace Go.Proofs.YtkjcoehblekpdaaGreatDoorAv
open Go Go.RowKit
theorem cut1_take (l : List UInt8) : ∀ i, (∀ j, j < i → l.getD j 0 ≠ 35) → i ≤ l.length → (i = l.length ∨ l.getD i 0 = 35) → (cut1 35 l).1 = l.take i := by
 induction l with
 | nil =>
  intro i _ h _
  obtain rfl : i = 0 := by simpa using h
  rfl
 | cons b l ih =>
  intro i h1 h2 h3
  cases i with
  | zero =>
   rcases h3 with h3 | h3
   ·simp at h3
   ·have h3 : b = 35 := h3
    rw [cut1, if_pos h3]
    rfl
  | succ i =>
   have h4 : b ≠ 35 := h1 0 (by omega)
   rw [cut1, if_neg h4]
   show b :: (cut1 35 l).1 = b :: l.take i
   rw [ih i (fun j hj => h1 (j + 1) (by omega)) (by simpa using h2) (by
    rcases h3 with h3 | h3
    ·left; simpa using h3
    ·right; exact h3)]
theorem words_one (s : ByteArray) : words s = ((split1 32 (repl1 9 [32] (cut1 35 s.data.toList).1)).map mk8).filter isNE := by
 unfold words wPieces
 rw [cutB_one, replB_one, splitS_one]
 rfl
end Go.Proofs.YtkjcoehblekpdaaGreatDoorAv
namespace Go.Proofs.YtkjcoehblekpdaaGreatDoorAv
open Go Go.RowKit
theorem sp_mid (c : UInt8) (A : List (List UInt8)) : ∀ (Y X x : List UInt8), c ∉ Y → split1 c X = A ++ [x] → split1 c (X ++ Y) = A ++ [x ++ Y]
 | [], X, x, _, h => by rw [List.append_nil, List.append_nil]; exact h
 | b :: Y, X, x, hc, h => by
  have hb : b ≠ c := fun e => hc (by rw [e]; exact .head _)
  have h1 := split1_snoc c b X A x h
  rw [if_neg hb] at h1
  have := sp_mid c A Y (X ++ [b]) (x ++ [b]) (fun k => hc (.tail _ k)) h1
  rw [List.append_assoc, List.append_assoc] at this
  exact this
theorem sp_line (c : UInt8) (A : List (List UInt8)) (X Y : List UInt8) (hc : c ∉ Y) (h : split1 c X = A ++ [[]]) : split1 c (X ++ (Y ++ [c])) = (A ++ [Y]) ++ [[]] := by
 have h1 := sp_mid c A Y X [] hc h
 rw [List.nil_append] at h1
 have h2 := split1_snoc c c (X ++ Y) A Y h1
 rw [if_pos rfl, List.append_assoc] at h2
 rw [h2, List.append_assoc]
 rfl
theorem lnsL_all {α : Type} (f : α → ByteArray) (l : List α) (h : ∀ x ∈ l, lnOk (words (f x)) = true) : lnsL (l.map f) = l.map fun x => lnH (words (f x)) := by
 unfold lnsL
 rw [List.filter_eq_self.2, List.map_map]
 ·rfl
 ·intro b hb
  obtain ⟨x, hx, rfl⟩ := List.mem_map.1 hb
  exact h x hx
theorem lnsL_end : lnsL [mk8 []] = [] := by
 have e : words (mk8 []) = [] := rfl
 unfold lnsL
 rw [List.filter_cons, if_neg (by rw [e]; decide)]
 rfl
end Go.Proofs.YtkjcoehblekpdaaGreatDoorAv
namespace Go.Proofs.YtkjcoehblekpdaaGreatDoorAv
open Go Go.RowKit
def join46 : List (List UInt8) → List UInt8
 | [] => []
 | [x] => x
 | x :: y :: r => x ++ 46 :: join46 (y :: r)
theorem join46_cons (x : List UInt8) {r : List (List UInt8)} (h : r ≠ []) : join46 (x :: r) = x ++ 46 :: join46 r := by
 cases r with
 | nil => exact absurd rfl h
 | cons y r => rfl
theorem join46_app {l r : List (List UInt8)} (hl : l ≠ []) (hr : r ≠ []) : join46 (l ++ r) = join46 l ++ 46 :: join46 r := by
 induction l with
 | nil => exact absurd rfl hl
 | cons x l ih =>
  by_cases h : l = []
  ·subst h; exact join46_cons x hr
  ·rw [List.cons_append, join46_cons x (by simp [h]), ih h, join46_cons x h, List.append_assoc]; rfl
theorem split1_dotc (s : List UInt8) : split1 46 (46 :: s) = [] :: split1 46 s := by rw [split1, if_pos rfl]
theorem split1_oth {c : UInt8} {s y : List UInt8} {t : List (List UInt8)} (h : c ≠ 46) (hs : split1 46 s = y :: t) : split1 46 (c :: s) = (c :: y) :: t := by rw [split1, if_neg h, hs]
theorem split1_ex (s : List UInt8) : ∃ y t, split1 46 s = y :: t := by
 cases h : split1 46 s with
 | nil => exact absurd h (split1_ne 46 s)
 | cons y t => exact ⟨y, t, rfl⟩
theorem split1_app (a b : List UInt8) : split1 46 (a ++ 46 :: b) = split1 46 a ++ split1 46 b := by
 induction a with
 | nil => rw [List.nil_append, split1_dotc]; rfl
 | cons x a ih =>
  rw [List.cons_append]
  by_cases h : x = 46
  ·subst h; rw [split1_dotc, split1_dotc, ih]; rfl
  ·obtain ⟨y, t, hs⟩ := split1_ex a
   rw [hs] at ih
   rw [split1_oth h ih, split1_oth h hs]; rfl
theorem split1_no {x : List UInt8} (h : ∀ c ∈ x, c ≠ 46) : split1 46 x = [x] := by
 induction x with
 | nil => rfl
 | cons c x ih =>
  exact split1_oth (h c (by simp)) (ih fun d hd => h d (by simp [hd]))
theorem split_join {l : List (List UInt8)} (hl : l ≠ []) (h : ∀ x ∈ l, ∀ c ∈ x, c ≠ 46) : split1 46 (join46 l) = l := by
 induction l with
 | nil => exact absurd rfl hl
 | cons x l ih =>
  by_cases e : l = []
  ·subst e; exact split1_no (h x (by simp))
  ·rw [join46_cons x e, split1_app, split1_no (h x (by simp)), ih e fun y hy => h y (by simp [hy])]; rfl
def trim46 (s : List UInt8) : List UInt8 := Lib.trimSuffix s [46]
theorem trim46_no {s : List UInt8} (h : ∀ t, s ≠ t ++ [46]) : trim46 s = s := by
 unfold trim46 Lib.trimSuffix Lib.hasSuffix
 rw [if_neg]
 rw [List.isSuffixOf_iff_suffix]
 rintro ⟨t, ht⟩
 exact h t ht.symm
def LL (s : List UInt8) : List (List UInt8) := split1 46 (trim46 s)
theorem LL_ne (s : List UInt8) : LL s ≠ [] := split1_ne _ _
theorem labs_LL (s : ByteArray) : labs s = (LL s.data.toList).map mk8 := by
 unfold labs LL trim46 ptT
 rw [splitS_one]
 rfl
def ee {α : Type} (F : α → Int) : List α → Int
 | [] => 0
 | x :: r => if F x ≠ 0 then F x else ee F r
theorem ee_zero {α : Type} {F : α → Int} : ∀ {l : List α}, ee F l = 0 ↔ ∀ x ∈ l, F x = 0
 | [] => by simp [ee]
 | x :: l => by
  rw [ee]
  by_cases h : F x = 0
  ·rw [if_neg (by simp [h]), ee_zero]; simp [h]
  ·rw [if_pos h]; simp [h]
theorem ee_app {α : Type} (F : α → Int) (l r : List α) : ee F (l ++ r) = if ee F l ≠ 0 then ee F l else ee F r := by
 induction l with
 | nil => simp [ee]
 | cons x l ih =>
  rw [List.cons_append, ee, ee, ih]
  by_cases h : F x = 0
  ·simp [h]
  ·simp [h]
theorem ee_map {α β : Type} (F : β → Int) (g : α → β) : ∀ l : List α, ee F (l.map g) = ee (fun x => F (g x)) l
 | [] => rfl
 | x :: l => by rw [List.map_cons, ee, ee, ee_map F g l]
theorem eaE_ee (f : ByteArray → ByteArray × Int) (l : List ByteArray) : ∀ i, i ≤ l.length → eaE f l i = ee (fun x => (f x).2) (l.take i)
 | 0, _ => rfl
 | i + 1, h => by
  rw [eaE, eaE_ee f l i (by omega), take_snoc' l i ⟨#[]⟩ (by omega), ee_app]
  show _ = if ee _ _ ≠ 0 then _ else if (f (l.getD i ⟨#[]⟩)).2 ≠ 0 then (f (l.getD i ⟨#[]⟩)).2 else 0
  by_cases e : (f (l.getD i ⟨#[]⟩)).2 = 0
  ·rw [e]; simp
  ·rw [if_pos e]
theorem ljF_join (g : Nat → ByteArray) : ∀ n, (ljF g n).data.toList = join46 ((List.range n).map fun j => (g j).data.toList)
 | 0 => rfl
 | n + 1 => by
  rw [ljF, List.range_succ, List.map_append]
  have ih := ljF_join g n
  by_cases h : 0 < n
  ·rw [if_pos h, join46_app (by intro e; have := congrArg List.length e; simp at this; omega) (by simp), ← ih]
   rw [ByteArray.data_append, Array.toList_append, ByteArray.data_append, Array.toList_append, List.append_assoc]
   rfl
  ·obtain rfl : n = 0 := by omega
   rw [if_neg h]
   rfl
theorem map_range {α β : Type} (l : List α) (d : α) (f : α → β) : (List.range l.length).map (fun j => f (l.getD j d)) = l.map f := by
 apply List.ext_getElem?
 intro j
 rw [List.getElem?_map, List.getElem?_map]
 by_cases hj : j < l.length
 ·rw [List.getElem?_range hj, List.getElem?_eq_getElem hj]
  simp only [Option.map_some]
  rw [List.getD_eq_getElem?_getD, List.getElem?_eq_getElem hj]
  rfl
 ·rw [List.getElem?_eq_none (by simpa using hj), List.getElem?_eq_none (by omega)]
  rfl
def lf (f : ByteArray → ByteArray × Int) (x : List UInt8) : List UInt8 × Int := ((f (mk8 x)).1.data.toList, (f (mk8 x)).2)
def eR (F : List UInt8 → List UInt8 × Int) (l : List (List UInt8)) : List UInt8 × Int := if ee (fun x => (F x).2) l ≠ 0 then ([], ee (fun x => (F x).2) l) else (join46 (l.map fun x => (F x).1), 0)
theorem eaR_eR (f : ByteArray → ByteArray × Int) (s : ByteArray) : eaR f s = (mk8 (eR (lf f) (LL s.data.toList)).1, (eR (lf f) (LL s.data.toList)).2) := by
 have h1 : eaE f (labs s) (labs s).length = ee (fun x => (lf f x).2) (LL s.data.toList) := by
  rw [eaE_ee f _ _ (Nat.le_refl _), List.take_length, labs_LL, ee_map]; rfl
 rw [eaR, h1, eR]
 split
 ·rfl
 ·dsimp only
  congr 1
  rw [← data_mk8 (ljF _ _), ljF_join]
  congr 1
  rw [labs_LL]
  have := map_range ((LL s.data.toList).map mk8) ⟨#[]⟩ fun x => (f x).1.data.toList
  rw [this, List.map_map]
  rfl
def aL : List UInt8 → List UInt8 × Int := lf ascR
def uL : List UInt8 → List UInt8 × Int := lf uniR
def tA (s : List UInt8) : List UInt8 × Int := if s.length > 1012 then ([], 2) else if (eR aL (LL s)).2 = 0 ∧ (eR aL (LL s)).1.length > 253 then ([], 2) else eR aL (LL s)
theorem toA_tA (s : ByteArray) : toA s = (mk8 (tA s.data.toList).1, (tA s.data.toList).2) := by
 rw [toA, tA, eaR_eR, size_data s, show lf ascR = aL from rfl]
 split
 ·rfl
 ·dsimp only
  rw [mk8_size]
  split
  ·rfl
  ·rfl
def lowc (c : UInt8) : UInt8 := if 65 ≤ c.toNat ∧ c.toNat ≤ 90 then c + 32 else c
theorem lowc_nat (c : UInt8) : (lowc c).toNat = if 65 ≤ c.toNat ∧ c.toNat ≤ 90 then c.toNat + 32 else c.toNat := by
 unfold lowc
 split
 ·rw [UInt8.toNat_add]
  have : (32 : UInt8).toNat = 32 := rfl
  omega
 ·rfl
theorem lowc_idem (c : UInt8) : lowc (lowc c) = lowc c := by
 apply UInt8.toNat_inj.1
 rw [lowc_nat, lowc_nat]
 by_cases h : 65 ≤ c.toNat ∧ c.toNat ≤ 90
 ·rw [if_pos h, if_neg (by omega)]
 ·rw [if_neg h, if_neg h]
theorem sbyte_nat (s : ByteArray) (j : Nat) : sbyte s j = ((s.data.toList.getD j 0).toNat : Int) := rfl
theorem lowT_list (s : ByteArray) : (lowT s).data.toList = s.data.toList.map lowc := by
 have e : (lowT s).data.toList = (List.range s.size).map fun j => UInt8.ofNat (lwB s s.size (0 + j)).toNat := rfl
 rw [e, size_data]
 have := map_range s.data.toList 0 lowc
 rw [← this]
 apply List.map_congr_left
 intro j hj
 have hj : j < s.data.toList.length := List.mem_range.1 hj
 apply UInt8.toNat_inj.1
 rw [Nat.zero_add, lowc_nat, UInt8.toNat_ofNat']
 unfold lwB capC
 rw [sbyte_nat]
 have hb := UInt8.toNat_lt (s.data.toList.getD j 0)
 by_cases h : 65 ≤ (s.data.toList.getD j 0).toNat ∧ (s.data.toList.getD j 0).toNat ≤ 90
 ·rw [if_pos h, if_pos ⟨hj, by simp only [Bool.and_eq_true, decide_eq_true_eq]; omega⟩, w8]; omega
 ·rw [if_neg h, if_neg]
  ·omega
  ·rintro ⟨-, h2⟩
   simp only [Bool.and_eq_true, decide_eq_true_eq] at h2
   omega
def plaL (x : List UInt8) : Bool := x.all fun c => decide (c.toNat < 128)
theorem pla_take (s : ByteArray) : ∀ i, i ≤ s.size → pla s i = plaL (s.data.toList.take i)
 | 0, _ => rfl
 | i + 1, h => by
  rw [size_data] at h
  rw [pla, pla_take s i (by rw [size_data]; omega), take_snoc' _ i 0 h, sbyte_nat]
  unfold plaL
  rw [List.all_append]
  simp only [List.all_cons, List.all_nil, Bool.and_true]
  congr 1
  rw [decide_eq_decide]; omega
theorem pla_list (s : ByteArray) : pla s s.size = plaL s.data.toList := by
 rw [pla_take s _ (Nat.le_refl _), size_data, List.take_length]
def okc (c : UInt8) : Bool := okC c.toNat
theorem okN_take (s : ByteArray) : ∀ i, i ≤ s.size → okN s i = (s.data.toList.take i).all okc
 | 0, _ => rfl
 | i + 1, h => by
  rw [size_data] at h
  rw [okN, okN_take s i (by rw [size_data]; omega), take_snoc' _ i 0 h, sbyte_nat, List.all_append]
  simp only [List.all_cons, List.all_nil, Bool.and_true]
  rfl
def rgtL (x : List UInt8) : Bool := decide (0 < x.length) && decide (x.length ≤ 63) && !(x.getD 0 0 == 45) && !(x.getD (x.length - 1) 0 == 45) && x.all okc
theorem nat_beq (c : UInt8) (n : Nat) (hn : n < 256) : (((c.toNat : Int)) == (n : Int)) = (c == UInt8.ofNat n) := by
 rw [Bool.eq_iff_iff, beq_iff_eq, beq_iff_eq, ← UInt8.toNat_inj, UInt8.toNat_ofNat']
 omega
theorem rgt_list (s : ByteArray) : rgt s = rgtL s.data.toList := by
 unfold rgt rgtL
 rw [okN_take s _ (Nat.le_refl _), size_data, List.take_length]
 have e0 : sbyte s 0 = ((s.data.toList.getD 0 0).toNat : Int) := rfl
 rw [e0]
 by_cases h : 0 < s.data.toList.length
 ·have e1 : sbyte s ((s.data.toList.length : Int) - 1) = ((s.data.toList.getD (s.data.toList.length - 1) 0).toNat : Int) := by
   unfold sbyte
   congr 3
   omega
  rw [e1]
  rw [show (45 : Int) = ((45 : Nat) : Int) from rfl, nat_beq _ 45 (by decide), nat_beq _ 45 (by decide)]
  rfl
 ·rw [decide_eq_false h]; rfl
theorem okc_rng : ∀ c : UInt8, okc c = true → c.toNat < 128 ∧ c.toNat ≠ 46 := by
 have h : ∀ n : Fin 256, okc (UInt8.ofNat n.val) = true → (UInt8.ofNat n.val).toNat < 128 ∧ (UInt8.ofNat n.val).toNat ≠ 46 := by decide +kernel
 intro c
 have := h ⟨c.toNat, UInt8.toNat_lt c⟩
 simpa using this
def xnL : List UInt8 := [120, 110, 45, 45]
theorem hasPre_list (s : ByteArray) : hasPreB s xnT = xnL.isPrefixOf s.data.toList := rfl
end Go.Proofs.YtkjcoehblekpdaaGreatDoorAv
namespace Go.Proofs.YtkjcoehblekpdaaGreatDoorAv
open Go Go.RowKit
def toB (x : Int) : UInt8 := UInt8.ofNat x.toNat
theorem toB_nat {x : Int} (h0 : 0 ≤ x) (h1 : x < 256) : ((toB x).toNat : Int) = x := by
 unfold toB
 rw [UInt8.toNat_ofNat']
 omega
theorem vlu_dgt {x : Int} (h0 : 0 ≤ x) (h1 : x < 36) : vlu ((toB (dgt x)).toNat : Int) = x := by
 have h := dgt_rng x h0 h1
 rw [toB_nat (by omega) (by omega)]
 unfold dgt vlu
 split
 ·rw [if_pos (by omega)]; omega
 ·rw [if_neg (by omega), if_neg (by omega), if_pos (by omega)]; omega
theorem dig_dec (b : Int) (rest : List UInt8) : ∀ (f : Nat) (q i w k : Int), 0 ≤ q → q < 10 ^ f → 0 ≤ i → 1 ≤ w → w ≤ 70000001 → i + q * w ≤ 2000000 → dnG b ((nmG b (f + 1) q k).map toB ++ rest) i w k = some (rest, i + q * w) := by
 intro f
 induction f with
 | zero =>
  intro q i w k h0 h1 hi hw hw1 hb
  have ht := thr_rng k b
  have hq : q = 0 := by simp at h1; omega
  subst hq
  have e : nmG b (0 + 1) 0 k = [dgt 0] := by rw [nmG, if_pos (by omega)]
  rw [e, List.map_singleton, List.singleton_append, dnG, vlu_dgt (Int.le_refl _) (by decide), if_neg (by omega), if_pos (by omega)]
 | succ f ih =>
  intro q i w k h0 h1 hi hw hw1 hb
  have ht := thr_rng k b
  have hqw : 0 ≤ q * w := Int.mul_nonneg h0 (by omega)
  by_cases h : q < thr k b
  ·have e : nmG b (f + 1 + 1) q k = [dgt q] := by rw [nmG, if_pos h]
   rw [e, List.map_singleton, List.singleton_append, dnG, vlu_dgt h0 (by omega), if_neg (by omega), if_pos h]
  ·rw [nmG_no h, List.map_cons, List.cons_append, dnG]
   generalize htt : thr k b = t at *
   have r1 : 0 ≤ (q - t) % (36 - t) := Int.emod_nonneg _ (by omega)
   have r2 : (q - t) % (36 - t) < 36 - t := Int.emod_lt_of_pos _ (by omega)
   have r3 : 0 ≤ (q - t) / (36 - t) := Int.ediv_nonneg (by omega) (by omega)
   have r5 : (36 - t) * ((q - t) / (36 - t)) + (q - t) % (36 - t) = q - t := Int.mul_ediv_add_emod _ _
   have r4 : (q - t) / (36 - t) < 10 ^ f := by
    rw [Int.pow_succ] at h1
    have hp0 : (0 : Int) ≤ 10 ^ f := Int.le_of_lt (Int.pow_pos (by decide))
    apply Int.ediv_lt_of_lt_mul (by omega)
    generalize (10 : Int) ^ f = z at *
    have : z * 10 ≤ z * (36 - t) := Int.mul_le_mul_of_nonneg_left (by omega) hp0
    omega
   rw [vlu_dgt (by omega) (by omega), if_neg (by omega), if_neg (by omega)]
   have hw2 : w * (36 - t) ≤ w * 35 := Int.mul_le_mul_of_nonneg_left (by omega) (by omega)
   have hw3 : w * 1 ≤ w * (36 - t) := Int.mul_le_mul_of_nonneg_left (by omega) (by omega)
   have hw4 : w * 1 ≤ w * q := Int.mul_le_mul_of_nonneg_left (by omega) (by omega)
   have hw5 : w * q = q * w := Int.mul_comm _ _
   have hx0 : 0 ≤ (t + (q - t) % (36 - t)) * w := Int.mul_nonneg (by omega) (by omega)
   have he : i + (t + (q - t) % (36 - t)) * w + (q - t) / (36 - t) * (w * (36 - t)) = i + q * w := by
    have e1 : (q - t) / (36 - t) * (w * (36 - t)) = ((36 - t) * ((q - t) / (36 - t))) * w := by
     rw [Int.mul_comm w, ← Int.mul_assoc, Int.mul_comm ((q - t) / (36 - t))]
    rw [e1, Int.add_assoc, ← Int.add_mul]
    congr 2
    omega
   have hd := ih ((q - t) / (36 - t)) (i + (t + (q - t) % (36 - t)) * w) (w * (36 - t)) (k + 36) r3 r4 (by omega) (by omega) (by omega) (by omega)
   rw [hd, he]
theorem num_dec (b q i : Int) (rest : List UInt8) (h0 : 0 ≤ q) (hi : 0 ≤ i) (hb : i + q ≤ 2000000) : dnG b ((num q b).map toB ++ rest) i 1 36 = some (rest, i + q) := by
 have := dig_dec b rest 18 q i 1 36 h0 (by omega) hi (Int.le_refl _) (by decide) (by omega)
 rw [Int.mul_one] at this
 exact this
def digP (x : Int) : Prop := (48 ≤ x ∧ x ≤ 57) ∨ (97 ≤ x ∧ x ≤ 122)
theorem dgt_P (d : Int) (h0 : 0 ≤ d) (h1 : d < 36) : digP (dgt d) := by
 unfold dgt digP
 split <;> omega
theorem nmG_P (b : Int) : ∀ (f : Nat) (q k : Int), 0 ≤ q → ∀ x ∈ nmG b f q k, digP x
 | 0, q, k, _, x, hx => by simp [nmG] at hx
 | f + 1, q, k, h0, x, hx => by
  have ht := thr_rng k b
  by_cases h : q < thr k b
  ·rw [nmG, if_pos h] at hx
   obtain rfl := List.mem_singleton.1 hx
   exact dgt_P q h0 (by omega)
  ·rw [nmG_no h] at hx
   rcases List.mem_cons.1 hx with rfl | hx
   ·have r1 : 0 ≤ (q - thr k b) % (36 - thr k b) := Int.emod_nonneg _ (by omega)
    have r2 : (q - thr k b) % (36 - thr k b) < 36 - thr k b := Int.emod_lt_of_pos _ (by omega)
    exact dgt_P _ (by omega) (by omega)
   ·exact nmG_P b f _ _ (Int.ediv_nonneg (by omega) (by omega)) x hx
theorem num_P (q b : Int) (h0 : 0 ≤ q) : ∀ x ∈ num q b, digP x := nmG_P b 19 q 36 h0
theorem num_ne (q b : Int) : num q b ≠ [] := by
 intro h
 unfold num at h
 rw [nmG] at h
 split at h <;> cases h
def dcc (l : List Int) (m : Int) (i : Nat) : List Int := (l.take i).filter (fun r => decide (r ≤ m)) ++ (l.drop i).filter (fun r => decide (r < m))
def dcl (l : List Int) (m : Int) (i : Nat) : Nat := ((l.take i).filter (fun r => decide (r ≤ m))).length
def Led (e0 : List Int) (k : Nat) (dg : List Int) (n i b : Int) (o : List Int) : Prop := ∀ f rest, dcG (f + k) (dg.map toB ++ rest) 128 0 72 e0 = dcG f rest n i b o
structure RI (l e1 e0 : List Int) (h0 m : Int) (i : Nat) (s : ES) (n j : Int) (k : Nat) (dg : List Int) : Prop where
 fo : s.o = e1 ++ dg
 fh : s.h = (dcc l m i).length
 led : Led e0 k dg n j s.b (dcc l m i)
 key : n * (s.h + 1) + j + s.d = m * (s.h + 1) + dcl l m i
 fj : 0 ≤ j ∧ j ≤ s.h
 fd : 0 ≤ s.d
 fn : 128 ≤ n ∧ n ≤ m
 st : (j == 0) = (s.h == h0)
 fh0 : h0 ≤ s.h
 fk : k ≤ dg.length
 dig : ∀ x ∈ dg, digP x
theorem filt_len (l : List Int) (p : Int → Bool) : (l.filter p).length ≤ l.length := List.length_filter_le _ _
theorem dcc_len (l : List Int) (m : Int) (i : Nat) : (dcc l m i).length ≤ l.length := by
 unfold dcc
 rw [List.length_append]
 have h1 := filt_len (l.take i) (fun r => decide (r ≤ m))
 have h2 := filt_len (l.drop i) (fun r => decide (r < m))
 rw [List.length_take] at h1
 rw [List.length_drop] at h2
 omega
theorem dcl_le (l : List Int) (m : Int) (i : Nat) : dcl l m i ≤ (dcc l m i).length := by
 unfold dcl dcc
 rw [List.length_append]; omega
theorem take_at (l : List Int) (i : Nat) (h : i < l.length) : l.take (i + 1) = l.take i ++ [l.getD i 0] := take_snoc' l i 0 h
theorem drop_at (l : List Int) (i : Nat) (h : i < l.length) : l.drop i = l.getD i 0 :: l.drop (i + 1) := by
 rw [List.drop_eq_getElem_cons h, List.getD_eq_getElem?_getD, List.getElem?_eq_getElem h]
 rfl
theorem dcc_same (l : List Int) (m : Int) (i : Nat) (h : i < l.length) (h1 : l.getD i 0 ≠ m) : dcc l m (i + 1) = dcc l m i := by
 unfold dcc
 rw [take_at l i h, drop_at l i h, List.filter_append, List.append_assoc]
 congr 1
 generalize l.getD i 0 = r at *
 by_cases e : r < m
 ·rw [List.filter_cons_of_pos (by simp; omega), List.filter_cons_of_pos (by simp; omega)]; rfl
 ·rw [List.filter_cons_of_neg (by simp; omega), List.filter_cons_of_neg (by simp; omega)]; rfl
theorem dcl_step (l : List Int) (m : Int) (i : Nat) (h : i < l.length) : dcl l m (i + 1) = if l.getD i 0 ≤ m then dcl l m i + 1 else dcl l m i := by
 unfold dcl
 rw [take_at l i h, List.filter_append, List.length_append]
 generalize l.getD i 0 = r at *
 by_cases e : r ≤ m
 ·rw [if_pos e, List.filter_cons_of_pos (by simpa using e)]; rfl
 ·rw [if_neg e, List.filter_cons_of_neg (by simpa using e)]; rfl
theorem dcc_ins (l : List Int) (m : Int) (i : Nat) (h : i < l.length) (h1 : l.getD i 0 = m) : dcc l m (i + 1) = (dcc l m i).take (dcl l m i) ++ m :: (dcc l m i).drop (dcl l m i) := by
 unfold dcc dcl
 rw [take_at l i h, drop_at l i h, h1, List.filter_append]
 have e1 : [m].filter (fun r => decide (r ≤ m)) = [m] := by simp
 have e2 : (m :: l.drop (i + 1)).filter (fun r => decide (r < m)) = (l.drop (i + 1)).filter (fun r => decide (r < m)) := by
  rw [List.filter_cons_of_neg (by simp)]
 rw [e1, e2, List.take_left', List.drop_left']
 ·rw [List.append_assoc]; rfl
 ·rfl
 ·rfl
theorem RI.step {l e1 e0 : List Int} {h0 m : Int} {i : Nat} {s : ES} {n j : Int} {k : Nat} {dg : List Int} (hl : l.length ≤ 63) (hm : m ≤ 2000) (hi : i < l.length) (R : RI l e1 e0 h0 m i s n j k dg) :
  ∃ n' j' k' dg', RI l e1 e0 h0 m (i + 1) (stp h0 m s (l.getD i 0)) n' j' k' dg' := by
 have hcl := dcl_le l m i
 have hdl := dcc_len l m i
 obtain ⟨r1, r2, r3, r4, ⟨r5, r6⟩, r7, ⟨r8, r9⟩, r10, r11, r12, r13⟩ := R
 have hst := dcl_step l m i hi
 rcases Int.lt_trichotomy (l.getD i 0) m with h | h | h
 ·rw [stp_lt _ _ _ _ h]
  have e := dcc_same l m i hi (by omega)
  rw [if_pos (by omega)] at hst
  exact ⟨n, j, k, dg, r1, by rw [e]; exact r2, by rw [e]; exact r3, by show n * (s.h + 1) + j + (s.d + 1) = m * (s.h + 1) + (dcl l m (i + 1) : Nat); rw [hst]; omega, ⟨r5, r6⟩, by show 0 ≤ s.d + 1; omega, ⟨r8, r9⟩, r10, r11, r12, r13⟩
 ·rw [stp_eq _ _ _ _ h]
  have e := dcc_ins l m i hi h
  rw [if_pos (by omega)] at hst
  have hel : (dcc l m (i + 1)).length = (dcc l m i).length + 1 := by
   rw [e, List.length_append, List.length_cons, List.length_take, List.length_drop]; omega
  have hp0 : 0 ≤ (m - n) * (s.h + 1) := Int.mul_nonneg (by omega) (by omega)
  have hp1 : (m - n) * (s.h + 1) ≤ 2000 * 64 := Int.mul_le_mul (by omega) (by omega) (by omega) (by decide)
  have hkey : j + s.d = (m - n) * (s.h + 1) + dcl l m i := by rw [Int.sub_mul]; omega
  refine ⟨m, dcl l m i + 1, k + 1, dg ++ num s.d s.b, ?_, ?_, ?_, ?_, ⟨by omega, ?_⟩, Int.le_refl _, ⟨by omega, Int.le_refl _⟩, ?_, ?_, ?_, ?_⟩
  ·show s.o ++ _ = _; rw [r1, List.append_assoc]
  ·show s.h + 1 = _; rw [hel]; omega
  ·intro f rest
   have h1 := r3 (f + 1) ((num s.d s.b).map toB ++ rest)
   rw [List.map_append, List.append_assoc, show f + (k + 1) = f + 1 + k by omega, h1]
   obtain ⟨c, t, ht⟩ : ∃ c t, (num s.d s.b).map toB = c :: t := by
    cases hn : num s.d s.b with
    | nil => exact absurd hn (num_ne _ _)
    | cons a t => exact ⟨toB a, t.map toB, rfl⟩
   have hnd := num_dec s.b s.d j rest r7 r5 (by omega)
   rw [ht, List.cons_append, dcG_cons, ← List.cons_append, ← ht, hnd, dcN]
   have hlen : ((dcc l m i).length : Int) = s.h := r2.symm
   have hq : (j + s.d) / ((dcc l m i).length + 1) = m - n := by
    rw [hlen, hkey, Int.add_comm, Int.add_mul_ediv_right _ _ (by omega), Int.ediv_eq_zero_of_lt (by omega) (by omega)]; omega
   have hr : (j + s.d) % ((dcc l m i).length + 1) = dcl l m i := by
    rw [hlen, hkey, Int.add_comm, Int.add_mul_emod_self_right, Int.emod_eq_of_lt (by omega) (by omega)]
   rw [hq, hr, if_neg]
   ·rw [show n + (m - n) = m by omega, show j + s.d - j = s.d by omega, hlen, r10, e, Int.toNat_natCast]
   ·unfold badR; omega
  ·show m * (s.h + 1 + 1) + (dcl l m i + 1 : Int) + 0 = m * (s.h + 1 + 1) + (dcl l m (i + 1) : Nat)
   rw [hst]; omega
  ·show (dcl l m i : Int) + 1 ≤ s.h + 1; omega
  ·have a1 : ((dcl l m i : Int) + 1 == 0) = false := by rw [beq_eq_false_iff_ne]; omega
   have a2 : (s.h + 1 == h0) = false := by rw [beq_eq_false_iff_ne]; omega
   rw [a1]; exact a2.symm
  ·show h0 ≤ s.h + 1; omega
  ·rw [List.length_append]
   have : 1 ≤ (num s.d s.b).length := by
    cases hn : num s.d s.b with
    | nil => exact absurd hn (num_ne _ _)
    | cons a t => simp
   omega
  ·intro x hx
   rcases List.mem_append.1 hx with hx | hx
   ·exact r13 x hx
   ·exact num_P _ _ r7 x hx
 ·rw [stp_gt _ _ _ _ h]
  have e := dcc_same l m i hi (by omega)
  rw [if_neg (by omega)] at hst
  exact ⟨n, j, k, dg, r1, by rw [e]; exact r2, by rw [e]; exact r3, by rw [hst]; exact r4, ⟨r5, r6⟩, r7, ⟨r8, r9⟩, r10, r11, r12, r13⟩
theorem fol_RI {l e1 e0 : List Int} {h0 m : Int} (hl : l.length ≤ 63) (hm : m ≤ 2000) (s : ES) : ∀ i, i ≤ l.length → (∃ n j k dg, RI l e1 e0 h0 m 0 s n j k dg) → ∃ n j k dg, RI l e1 e0 h0 m i (fol (fun j => l.getD j 0) h0 m s i) n j k dg
 | 0, _, h => h
 | i + 1, hi, h => by
  obtain ⟨n, j, k, dg, R⟩ := fol_RI hl hm s i (by omega) h
  exact R.step hl hm (by omega)
structure HI (l e1 e0 : List Int) (h0 m : Int) (s : ES) (n j : Int) (k : Nat) (dg : List Int) : Prop where
 fo : s.o = e1 ++ dg
 fh : s.h = (l.filter (fun r => decide (r < m))).length
 led : Led e0 k dg n j s.b (l.filter (fun r => decide (r < m)))
 key : n * (s.h + 1) + j + s.d = m * (s.h + 1)
 fj : 0 ≤ j ∧ j ≤ s.h
 fd : 0 ≤ s.d
 fn : 128 ≤ n ∧ n ≤ m
 st : (j == 0) = (s.h == h0)
 fh0 : h0 ≤ s.h
 fk : k ≤ dg.length
 dig : ∀ x ∈ dg, digP x
theorem dcc_zero (l : List Int) (m : Int) : dcc l m 0 = l.filter (fun r => decide (r < m)) := by simp [dcc]
theorem dcc_full (l : List Int) (m : Int) : dcc l m l.length = l.filter (fun r => decide (r ≤ m)) := by simp [dcc]
theorem dcl_full (l : List Int) (m : Int) : dcl l m l.length = (l.filter (fun r => decide (r ≤ m))).length := by simp [dcl]
theorem filt_eq {l : List Int} {a b : Int} (h : ∀ r ∈ l, r < a ↔ r < b) : l.filter (fun r => decide (r < a)) = l.filter (fun r => decide (r < b)) := by
 apply List.filter_congr
 intro r hr
 rw [decide_eq_decide]
 exact h r hr
theorem HI.round {l e1 e0 : List Int} {h0 m : Int} {s : ES} {n j : Int} {k : Nat} {dg : List Int} (hl : l.length ≤ 63) (H : HI l e1 e0 h0 m s n j k dg) (m' : Int) (hmm : m ≤ m') (hm : m' ≤ 2000) (hno : ∀ r ∈ l, r < m ∨ m' ≤ r) :
  ∃ n' j' k' dg', HI l e1 e0 h0 (m' + 1) { fol (fun j => l.getD j 0) h0 m' { s with d := s.d + (m' - m) * (s.h + 1) } l.length with d := (fol (fun j => l.getD j 0) h0 m' { s with d := s.d + (m' - m) * (s.h + 1) } l.length).d + 1 } n' j' k' dg' := by
 obtain ⟨q1, q2, q3, q4, ⟨q5, q6⟩, q7, ⟨q8, q9⟩, q10, q11, q12, q13⟩ := H
 have hp0 : 0 ≤ (m' - m) * (s.h + 1) := Int.mul_nonneg (by omega) (by omega)
 have hf : l.filter (fun r => decide (r < m)) = l.filter (fun r => decide (r < m')) := filt_eq fun r hr => by
  rcases hno r hr with h | h <;> omega
 have R0 : RI l e1 e0 h0 m' 0 { s with d := s.d + (m' - m) * (s.h + 1) } n j k dg := ⟨q1, by rw [dcc_zero, ← hf]; exact q2, by rw [dcc_zero, ← hf]; exact q3, by
   show n * (s.h + 1) + j + (s.d + (m' - m) * (s.h + 1)) = m' * (s.h + 1) + ((dcl l m' 0 : Nat) : Int)
   have : dcl l m' 0 = 0 := by simp [dcl]
   rw [this, Int.sub_mul]; omega, ⟨q5, q6⟩, by show 0 ≤ s.d + _; omega, ⟨q8, by omega⟩, q10, q11, q12, q13⟩
 obtain ⟨n', j', k', dg', R⟩ := fol_RI hl hm { s with d := s.d + (m' - m) * (s.h + 1) } l.length (Nat.le_refl _) ⟨n, j, k, dg, R0⟩
 generalize fol (fun j => l.getD j 0) h0 m' { s with d := s.d + (m' - m) * (s.h + 1) } l.length = t at R ⊢
 obtain ⟨p1, p2, p3, p4, p5, p6, ⟨p7, p8⟩, p9, p10, p11, p12⟩ := R
 have hfe : l.filter (fun r => decide (r ≤ m')) = l.filter (fun r => decide (r < m' + 1)) := by
  apply List.filter_congr
  intro r _
  rw [decide_eq_decide]; omega
 rw [dcc_full, hfe] at p2 p3
 rw [dcl_full, hfe] at p4
 refine ⟨n', j', k', dg', p1, p2, p3, ?_, p5, by show 0 ≤ t.d + 1; omega, ⟨p7, by omega⟩, p9, p10, p11, p12⟩
 show n' * (t.h + 1) + j' + (t.d + 1) = (m' + 1) * (t.h + 1)
 rw [Int.add_mul]
 omega
theorem filt_all {l : List Int} {p : Int → Bool} (h : l.length ≤ (l.filter p).length) : l.filter p = l := by
 rw [List.filter_eq_self]
 intro a ha
 have := List.length_filter_lt_length_iff_exists (p := p) (l := l)
 cases hp : p a
 ·exact absurd ((this).2 ⟨a, ha, by rw [hp]; decide⟩) (by omega)
 ·rfl
theorem encG_RI {l e1 e0 : List Int} {h0 : Int} (hl : l.length ≤ 63) (hg : ∀ r ∈ l, 0 ≤ r ∧ r < 2000) : ∀ (f : Nat) (m : Int) (s : ES) (n j : Int) (k : Nat) (dg : List Int), OK2 ⟨l.length, fun j => l.getD j 0⟩ h0 ⟨m, s, f⟩ → HI l e1 e0 h0 m s n j k dg → ∀ o, encG (fun j => l.getD j 0) l.length h0 f m s = (o, 0) →
  ∃ k' dg', o = e1 ++ dg' ∧ k' ≤ dg'.length ∧ (∀ x ∈ dg', digP x) ∧ ∀ f', dcG (f' + k') (dg'.map toB) 128 0 72 e0 = some l := by
 have hg' : ∀ i, i < l.length → 0 ≤ l.getD i 0 ∧ l.getD i 0 < 2000 := fun i hi => by
  rw [List.getD_eq_getElem?_getD, List.getElem?_eq_getElem hi]
  exact hg _ (List.getElem_mem hi)
 have fin : ∀ (m : Int) (s : ES) (n j : Int) (k : Nat) (dg : List Int), HI l e1 e0 h0 m s n j k dg → ¬ s.h < l.length → ∀ o, (s.o, (0 : Int)) = (o, 0) → ∃ k' dg', o = e1 ++ dg' ∧ k' ≤ dg'.length ∧ (∀ x ∈ dg', digP x) ∧ ∀ f', dcG (f' + k') (dg'.map toB) 128 0 72 e0 = some l := by
  intro m s n j k dg H h2 o ho
  have ho : s.o = o := congrArg Prod.fst ho
  have hfl : l.filter (fun r => decide (r < m)) = l := filt_all (by have := H.fh; omega)
  refine ⟨k, dg, ho ▸ H.fo, H.fk, H.dig, fun f' => ?_⟩
  have := H.led f' []
  rw [List.append_nil, hfl] at this
  rw [this]
  cases f' <;> rfl
 intro f
 induction f with
 | zero =>
  intro m s n j k dg hK H o ho
  by_cases h3 : s.o.length > 63
  ·rw [encG_stop h3] at ho; exact absurd (show (2 : Int) = 0 from congrArg Prod.snd ho) (by decide)
  ·have h1 := hK.f.1
   have h2 : ¬ s.h < l.length := by
    have h1 : (l.length : Int) - s.h ≤ (0 : Nat) := h1
    omega
   rw [encG_end h3 h2] at ho
   exact fin m s n j k dg H h2 o ho
 | succ f ih =>
  intro m s n j k dg hK H o ho
  by_cases h3 : s.o.length > 63
  ·rw [encG_stop h3] at ho; exact absurd (show (2 : Int) = 0 from congrArg Prod.snd ho) (by decide)
  ·by_cases h2 : s.h < l.length
   ·rw [encG_go h3 h2] at ho
    obtain ⟨K', m0, m1, m2⟩ := hK.step (q := ⟨l.length, fun j => l.getD j 0⟩) (by show l.length ≤ 2000; omega) (fun i hi => by have := hg' i hi; exact ⟨this.1, by show l.getD i 0 ≤ 1114111; omega⟩) h2 h3
    dsimp only at K' m0 m1 m2
    have hm2000 : mnr (fun j => l.getD j 0) m l.length ≤ 2000 := by
     have hkh : s.h = clt (fun j => l.getD j 0) m l.length := hK.h
     obtain ⟨jx, hj1, hj2⟩ := clt_ex (fun j => l.getD j 0) m l.length (by omega)
     have := hg' jx hj1
     rcases m2 jx hj1 with h | h
     ·have hj2 : m ≤ l.getD jx 0 := hj2
      have h : l.getD jx 0 < m := h
      omega
     ·have h : mnr (fun j => l.getD j 0) m l.length ≤ l.getD jx 0 := h
      omega
    obtain ⟨n', j', k', dg', H'⟩ := H.round hl (mnr (fun j => l.getD j 0) m l.length) m0 hm2000 fun r hr => by
     obtain ⟨i, hi, rfl⟩ := List.getElem_of_mem hr
     have this : l.getD i 0 < m ∨ mnr (fun j => l.getD j 0) m l.length ≤ l.getD i 0 := m2 i hi
     rw [List.getD_eq_getElem?_getD, List.getElem?_eq_getElem hi] at this
     exact this
    exact ih _ _ _ _ _ _ K' H' o ho
   ·rw [encG_end h3 h2] at ho
    exact fin m s n j k dg H h2 o ho
theorem eo0_filt (l : List Int) : ∀ i, i ≤ l.length → eo0 (fun j => l.getD j 0) i = (l.take i).filter (fun r => decide (r < 128))
 | 0, _ => rfl
 | i + 1, h => by
  rw [eo0, eo0_filt l i (by omega), take_at l i (by omega), List.filter_append]
  by_cases e : l.getD i 0 < 128
  ·rw [if_pos e, List.filter_cons_of_pos (by simpa using e)]; rfl
  ·rw [if_neg e, List.filter_cons_of_neg (by simpa using e)]; simp
theorem encR_RI {l : List Int} (hl : l.length ≤ 63) (hg : ∀ r ∈ l, 0 ≤ r ∧ r < 2000) {o : List Int} (ho : encR (fun j => l.getD j 0) l.length = (o, 0)) :
  ∃ k' dg', o = eo1 (fun j => l.getD j 0) l.length ++ dg' ∧ k' ≤ dg'.length ∧ (∀ x ∈ dg', digP x) ∧ ∀ f', dcG (f' + k') (dg'.map toB) 128 0 72 (eo0 (fun j => l.getD j 0) l.length) = some l := by
 have hg' : ∀ i, i < l.length → 0 ≤ l.getD i 0 ∧ l.getD i 0 ≤ 1114111 := fun i hi => by
  rw [List.getD_eq_getElem?_getD, List.getElem?_eq_getElem hi]
  have := hg _ (List.getElem_mem hi)
  exact ⟨this.1, by show l[i] ≤ _; omega⟩
 have he := eo0_filt l l.length (Nat.le_refl _)
 rw [List.take_length] at he
 refine encG_RI hl hg l.length 128 ⟨(eo0 (fun j => l.getD j 0) l.length).length, 0, 72, eo1 (fun j => l.getD j 0) l.length⟩ 128 0 0 [] (OK2.start (q := ⟨l.length, fun j => l.getD j 0⟩) (by show l.length ≤ 2000; omega) hg') ⟨by simp, by rw [he], ?_, by show (128 : Int) * (((eo0 _ _).length : Int) + 1) + 0 + 0 = 128 * (((eo0 _ _).length : Int) + 1); omega, ⟨Int.le_refl _, by show (0 : Int) ≤ ((eo0 (fun j => l.getD j 0) l.length).length : Int); omega⟩, Int.le_refl _, ⟨Int.le_refl _, Int.le_refl _⟩, by simp, Int.le_refl _, Nat.le_refl _, fun x hx => by simp at hx⟩ o ho
 intro f rest
 rw [← he]
 rfl
end Go.Proofs.YtkjcoehblekpdaaGreatDoorAv
namespace Go.Proofs.YtkjcoehblekpdaaGreatDoorAv
open Go Go.RowKit
def aN (t : List UInt8) : List UInt8 × Int := ((ascL (rns (mk8 t))).1.data.toList, (ascL (rns (mk8 t))).2)
def aS (t : List UInt8) : List UInt8 × Int :=
 if plaL t then
  if rgtL t = false then ([], 1)
  else if xnL.isPrefixOf t then (t, (uL t).2) else (t, 0)
 else if validB (mk8 t) = false then ([], 1)
 else aN t
theorem low_mk8 (x : List UInt8) : lowT (mk8 x) = mk8 (x.map lowc) := by
 rw [← data_mk8 (lowT (mk8 x)), lowT_list, mk8_data]
theorem aL_aS (x : List UInt8) : aL x = aS (x.map lowc) := by
 unfold aL lf
 rw [ascR, low_mk8, ascS, pla_list, rgt_list, hasPre_list, mk8_data, aS]
 split
 ·split
  ·rfl
  ·split
   ·rfl
   ·rfl
 ·split
  ·rfl
  ·rfl
theorem eR_ok {F : List UInt8 → List UInt8 × Int} {l : List (List UInt8)} (h : ee (fun x => (F x).2) l = 0) : eR F l = (join46 (l.map fun x => (F x).1), 0) := by rw [eR, if_neg (by rw [h]; simp)]
theorem eR_err {F : List UInt8 → List UInt8 × Int} {l : List (List UInt8)} (h : ee (fun x => (F x).2) l ≠ 0) : eR F l = ([], ee (fun x => (F x).2) l) := by rw [eR, if_pos h]
def tL (l : List (List UInt8)) : List UInt8 × Int := if (eR aL l).2 = 0 ∧ (eR aL l).1.length > 253 then ([], 2) else eR aL l
theorem tA_tL {s : List UInt8} (h : s.length ≤ 1012) : tA s = tL (LL s) := by rw [tA, if_neg (by omega), tL]
theorem LL_no {s : List UInt8} (h : ∀ t, s ≠ t ++ [46]) : LL s = split1 46 s := by unfold LL; rw [trim46_no h]
end Go.Proofs.YtkjcoehblekpdaaGreatDoorAv
namespace Go.Proofs.YtkjcoehblekpdaaGreatDoorAv
open Go Go.RowKit
theorem lastB_full (s : ByteArray) : (lastB s 45 = -1 ∧ ∀ j : Nat, j < s.size → sbyte s j ≠ 45) ∨ ∃ i : Nat, i < s.size ∧ lastB s 45 = i ∧ sbyte s i = 45 ∧ ∀ j : Nat, i < j → j < s.size → sbyte s j ≠ 45 := by
 have hb : ∀ j : Nat, j < s.size → ((s.data[j]!).toNat : Int) = sbyte s j := fun j hj => by
  unfold sbyte
  rw [size_data] at hj
  rw [Int.toNat_natCast, List.getD_eq_getElem?_getD, List.getElem?_eq_getElem hj]
  have h1' : j < s.data.size := by simpa using hj
  rw [getElem!_pos s.data j h1']
  rfl
 rcases Lib.lastIndexByte_spec s 45 with ⟨h, h2⟩ | ⟨i, h1, h2, h3, h4⟩
 ·exact .inl ⟨h, fun j hj => by rw [← hb j hj]; exact h2 j hj⟩
 ·exact .inr ⟨i, h1, h2, by rw [← hb i h1]; exact h3, fun j hj hj2 => by rw [← hb j hj2]; exact h4 j hj hj2⟩
theorem txtO_byte {o : List Int} (h : oOK o) (j : Nat) (hj : j < o.length) : sbyte (txtO o) j = o.getD j 0 := by
 unfold sbyte
 rw [Int.toNat_natCast, txtO_list, List.getD_eq_getElem?_getD, List.getElem?_map, List.getElem?_eq_getElem hj, List.getD_eq_getElem?_getD, List.getElem?_eq_getElem hj]
 have := h _ (List.getElem_mem hj)
 simp only [Option.map_some, Option.getD_some]
 rw [UInt8.toNat_ofNat']
 omega
theorem map_toB_nat {o : List Int} (h : oOK o) : (o.map toB).map (fun c => (c.toNat : Int)) = o := by
 rw [List.map_map]
 conv => rhs; rw [← List.map_id o]
 apply List.map_congr_left
 intro x hx
 have := h x hx
 exact toB_nat this.1 (by omega)
theorem eqf_refl : ∀ l : List UInt8, Lib.equalFold l l = true
 | [] => rfl
 | c :: l => by
  rw [Lib.equalFold, eqf_refl l, Bool.and_true]
  unfold Lib.foldEq
  simp
theorem fol_len (g : Nat → Int) (h0 m : Int) (s : ES) (h : s.h ≤ s.o.length) : ∀ i, (fol g h0 m s i).h ≤ (fol g h0 m s i).o.length
 | 0 => h
 | i + 1 => by
  have ih := fol_len g h0 m s h i
  have e : fol g h0 m s (i + 1) = stp h0 m (fol g h0 m s i) (g i) := rfl
  rw [e]
  rcases Int.lt_trichotomy (g i) m with k | k | k
  ·rw [stp_lt _ _ _ _ k]; exact ih
  ·rw [stp_eq _ _ _ _ k]
   have : 1 ≤ (num (fol g h0 m s i).d (fol g h0 m s i).b).length := by
    cases hn : num (fol g h0 m s i).d (fol g h0 m s i).b with
    | nil => exact absurd hn (num_ne _ _)
    | cons a t => simp
   show (fol g h0 m s i).h + 1 ≤ (((fol g h0 m s i).o ++ num (fol g h0 m s i).d (fol g h0 m s i).b).length : Int)
   rw [List.length_append]; omega
  ·rw [stp_gt _ _ _ _ k]; exact ih
theorem encG_len {q : Sq Int} {h0 : Int} (hn : q.n ≤ 2000) (hg : ∀ i, i < q.n → 0 ≤ q.g i ∧ q.g i ≤ 1114111) : ∀ (f : Nat) (n : Int) (s : ES), OK2 q h0 ⟨n, s, f⟩ → s.h ≤ s.o.length → ∀ o, encG q.g q.n h0 f n s = (o, 0) → q.n ≤ o.length := by
 intro f
 induction f with
 | zero =>
  intro n s hK h o ho
  by_cases h3 : s.o.length > 63
  ·rw [encG_stop h3] at ho; exact absurd (show (2 : Int) = 0 from congrArg Prod.snd ho) (by decide)
  ·have h1 := hK.f.1
   have h2 : ¬ s.h < q.n := by
    have h1 : (q.n : Int) - s.h ≤ (0 : Nat) := h1
    omega
   rw [encG_end h3 h2] at ho
   have : s.o = o := congrArg Prod.fst ho
   rw [← this]; omega
 | succ f ih =>
  intro n s hK h o ho
  by_cases h3 : s.o.length > 63
  ·rw [encG_stop h3] at ho; exact absurd (show (2 : Int) = 0 from congrArg Prod.snd ho) (by decide)
  ·by_cases h2 : s.h < q.n
   ·rw [encG_go h3 h2] at ho
    exact ih _ _ (hK.step hn hg h2 h3).1 (fol_len q.g h0 (mnr q.g n q.n) { s with d := s.d + (mnr q.g n q.n - n) * (s.h + 1) } h q.n) o ho
   ·rw [encG_end h3 h2] at ho
    have : s.o = o := congrArg Prod.fst ho
    rw [← this]; omega
theorem encR_len {l : List Int} (hl : l.length ≤ 2000) (hg : ∀ r ∈ l, 0 ≤ r ∧ r ≤ 1114111) {o : List Int} (ho : encR (fun j => l.getD j 0) l.length = (o, 0)) : l.length ≤ o.length := by
 have hg' : ∀ i, i < l.length → 0 ≤ l.getD i 0 ∧ l.getD i 0 ≤ 1114111 := fun i hi => by
  rw [List.getD_eq_getElem?_getD, List.getElem?_eq_getElem hi]
  exact hg _ (List.getElem_mem hi)
 have hs := OK2.start (q := ⟨l.length, fun j => l.getD j 0⟩) hl hg'
 refine encG_len (q := ⟨l.length, fun j => l.getD j 0⟩) hl hg' _ _ _ hs ?_ o ho
 show ((eo0 (fun j => l.getD j 0) l.length).length : Int) ≤ ((eo1 (fun j => l.getD j 0) l.length).length : Int)
 unfold eo1
 split
 ·rw [List.length_append]; omega
 ·omega
theorem decR_enc {l : List Int} (hl : l.length ≤ 63) (hg : ∀ r ∈ l, 0 ≤ r ∧ r < 2000) {o : List Int} (ho : encR (fun j => l.getD j 0) l.length = (o, 0)) : decR (txtO o) = (l, 0) := by
 have hg' : ∀ i, i < l.length → 0 ≤ l.getD i 0 ∧ l.getD i 0 ≤ 1114111 := fun i hi => by
  rw [List.getD_eq_getElem?_getD, List.getElem?_eq_getElem hi]
  have := hg _ (List.getElem_mem hi)
  exact ⟨this.1, by show l[i] ≤ _; omega⟩
 obtain ⟨k', dg, e1, e2, e3, e4⟩ := encR_RI hl hg ho
 have hok := encR_ok (q := ⟨l.length, fun j => l.getD j 0⟩) (by show l.length ≤ 2000; omega) hg'
 dsimp only at hok
 rw [ho] at hok
 obtain ⟨o1, o2⟩ := hok
 dsimp only at o1 o2
 have hsz := txtO_size o
 have hdg : ∀ x ∈ dg, x ≠ 45 := fun x hx => by rcases e3 x hx with h | h <;> omega
 generalize he0 : eo0 (fun j => l.getD j 0) l.length = e0 at *
 have hby : ∀ j : Nat, j < o.length → sbyte (txtO o) j = o.getD j 0 := fun j hj => txtO_byte o1 j hj
 have fin : ∀ p : Nat, lst (txtO o) p = dg.map toB → dcG ((txtO o).size + 1) (lst (txtO o) p) 128 0 72 e0 = some l := fun p hp => by
  rw [hp, hsz, show o.length + 1 = (o.length + 1 - k') + k' by
   have : dg.length ≤ o.length := by rw [e1, List.length_append]; omega
   omega]
  exact e4 _
 have done : decK (txtO o) (some l) = (l, 0) := by
  rw [decK, if_neg]
  rw [ho]
  rintro (h | h)
  ·exact h rfl
  ·have : eqfB (txtO o) (txtO o) = true := eqf_refl _
   rw [this] at h; cases h
 have hpr : ∀ m : Nat, m ≤ o.length → ¬ ∃ j, j < m ∧ sbyte (txtO o) (j : Nat) ≥ 128 := by
  rintro m hm ⟨j, h1, h2⟩
  rw [hby j (by omega)] at h2
  have := o1 (o.getD j 0) (by rw [List.getD_eq_getElem?_getD, List.getElem?_eq_getElem (by omega)]; exact List.getElem_mem _)
  omega
 rw [decR, if_neg (by omega)]
 have hu : eo1 (fun j => l.getD j 0) l.length = if 0 < e0.length then e0 ++ [45] else e0 := by unfold eo1; rw [he0]
 rw [hu] at e1
 by_cases h0 : 0 < e0.length
 ·rw [if_pos h0] at e1
  have eo : o = e0 ++ 45 :: dg := by rw [e1, List.append_assoc]; rfl
  have hp : e0.length < o.length := by rw [eo, List.length_append, List.length_cons]; omega
  have hat : sbyte (txtO o) (e0.length : Nat) = 45 := by
   rw [hby _ hp, eo, List.getD_eq_getElem?_getD, List.getElem?_append_right (Nat.le_refl _)]; simp
  have hafter : ∀ j : Nat, e0.length < j → j < (txtO o).size → sbyte (txtO o) j ≠ 45 := fun j h1 h2 => by
   rw [hsz] at h2
   rw [hby j h2, eo, List.getD_eq_getElem?_getD, List.getElem?_append_right (by omega), show j - e0.length = (j - e0.length - 1) + 1 by omega, List.getElem?_cons_succ]
   rw [eo, List.length_append, List.length_cons] at h2
   rw [List.getElem?_eq_getElem (by omega)]
   exact hdg _ (List.getElem_mem _)
  have hL : lastB (txtO o) 45 = e0.length := by
   rcases lastB_full (txtO o) with ⟨h1, h2⟩ | ⟨i, h1, h2, h3, h4⟩
   ·exact absurd hat (h2 e0.length (by omega))
   ·rcases Nat.lt_trichotomy i e0.length with k | k | k
    ·exact absurd hat (h4 e0.length k (by omega))
    ·rw [h2, k]
    ·exact absurd h3 (hafter i k h1)
  have him : (imax (lastB (txtO o) 45) 0).toNat = e0.length := by rw [hL]; unfold imax; split <;> omega
  rw [him, if_neg (hpr _ (by omega)), hL]
  have hpre : preL (txtO o) e0.length = e0 := by
   unfold preL
   rw [txtO_list, eo, ← List.map_take, List.take_left']
   ·exact map_toB_nat (o := e0) fun x hx => o1 x (by rw [eo]; simp [hx])
   ·rfl
  have hlst : lst (txtO o) ((e0.length : Int) + 1).toNat = dg.map toB := by
   unfold lst
   rw [show ((e0.length : Int) + 1).toNat = e0.length + 1 by omega, txtO_list, eo, ← List.map_drop, ← List.drop_drop, List.drop_left']
   ·rfl
   ·rfl
  rw [hpre, fin _ hlst, done]
 ·rw [if_neg h0] at e1
  have e00 : e0 = [] := List.length_eq_zero_iff.1 (by omega)
  have eo : o = dg := by rw [e1, e00]; rfl
  have hL : lastB (txtO o) 45 = -1 := by
   rcases lastB_full (txtO o) with ⟨h1, h2⟩ | ⟨i, h1, h2, h3, h4⟩
   ·exact h1
   ·rw [hsz] at h1
    rw [hby i h1, List.getD_eq_getElem?_getD, List.getElem?_eq_getElem h1] at h3
    exact absurd h3 (hdg _ (by rw [← eo]; exact List.getElem_mem h1))
  have him : (imax (lastB (txtO o) 45) 0).toNat = 0 := by rw [hL]; rfl
  rw [him, if_neg (hpr _ (Nat.zero_le _)), hL]
  have hpre : preL (txtO o) 0 = e0 := by rw [e00]; rfl
  have hlst : lst (txtO o) ((-1 : Int) + 1).toNat = dg.map toB := by
   unfold lst
   rw [txtO_list, ← eo]
   rfl
  rw [hpre, fin _ hlst, done]
theorem dnG_ge (b : Int) : ∀ (l : List UInt8) (i w k : Int) (l' : List UInt8) (j : Int), 0 ≤ w → dnG b l i w k = some (l', j) → i ≤ j
 | [], i, w, k, l', j, _, h => by simp [dnG] at h
 | c :: l, i, w, k, l', j, hw, h => by
  have hv := vlu_rng (c.toNat : Int)
  have ht := thr_rng k b
  have hm : 0 ≤ vlu c.toNat * w := Int.mul_nonneg hv.1 hw
  rw [dnG] at h
  split at h
  ·cases h
  ·split at h
   ·simp only [Option.some.injEq, Prod.mk.injEq] at h
    omega
   ·have := dnG_ge b l _ _ _ l' j (Int.mul_nonneg hw (by omega)) h
    omega
theorem dcG_mem : ∀ (f : Nat) (l : List UInt8) (n i b : Int) (o o' : List Int), 128 ≤ n → 0 ≤ i → dcG f l n i b o = some o' → ∀ r ∈ o', r ∈ o ∨ 128 ≤ r
 | f, [], n, i, b, o, o', _, _, h => by
  have : dcG f [] n i b o = some o := by cases f <;> rfl
  rw [this] at h
  obtain rfl := Option.some.inj h
  exact fun r hr => .inl hr
 | 0, c :: l, n, i, b, o, o', _, _, h => by simp [dcG] at h
 | f + 1, c :: l, n, i, b, o, o', hn, hi, h => by
  rw [dcG_cons] at h
  cases hd : dnG b (c :: l) i 1 36 with
  | none => rw [hd] at h; cases h
  | some r =>
   obtain ⟨l', j⟩ := r
   rw [hd, dcN] at h
   split at h
   ·cases h
   ·have h1 := dnG_ge b _ _ _ _ _ _ (by decide) hd
    have hq : 0 ≤ j / ((o.length : Int) + 1) := Int.ediv_nonneg (by omega) (by omega)
    have hr1 : 0 ≤ j % ((o.length : Int) + 1) := Int.emod_nonneg _ (by omega)
    intro r hr
    rcases dcG_mem f l' _ _ _ _ o' (by omega) (by omega) h r hr with k | k
    ·rcases List.mem_append.1 k with k | k
     ·exact .inl (List.mem_of_mem_take k)
     ·rcases List.mem_cons.1 k with rfl | k
      ·right; omega
      ·exact .inl (List.mem_of_mem_drop k)
    ·exact .inr k
theorem decR_facts {s : ByteArray} (h : (decR s).2 = 0) : (∀ r ∈ (decR s).1, (∃ c ∈ s.data.toList, r = (c.toNat : Int)) ∨ 128 ≤ r) ∧ (encR (fun j => (decR s).1.getD j 0) (decR s).1.length).2 = 0 ∧ eqfB (txtO (encR (fun j => (decR s).1.getD j 0) (decR s).1.length).1) s = true := by
 rw [decR] at h ⊢
 split at h
 ·exact absurd h (by decide)
 ·rename_i h63
  rw [if_neg h63]
  split at h
  ·exact absurd h (by decide)
  ·rename_i h2
   rw [if_neg h2]
   cases hd : dcG (s.size + 1) (lst s (lastB s 45 + 1).toNat) 128 0 72 (preL s (imax (lastB s 45) 0).toNat) with
   | none => rw [hd, decK] at h; exact absurd h (by decide)
   | some o =>
    rw [hd, decK] at h
    rw [decK]
    by_cases hc : (encR (fun j => o.getD j 0) o.length).2 ≠ 0 ∨ eqfB (txtO (encR (fun j => o.getD j 0) o.length).1) s = false
    ·rw [if_pos hc] at h; exact absurd h (by decide)
    ·rw [if_neg hc]
     refine ⟨fun r hr => ?_, ?_, ?_⟩
     ·rcases dcG_mem _ _ _ _ _ _ _ (Int.le_refl _) (Int.le_refl _) hd r hr with k | k
      ·left
       unfold preL at k
       obtain ⟨c, hc, rfl⟩ := List.mem_map.1 k
       exact ⟨c, List.mem_of_mem_take hc, rfl⟩
      ·exact .inr k
     ·by_cases e : (encR (fun j => o.getD j 0) o.length).2 = 0
      ·exact e
      ·exact absurd (.inl e) hc
     ·cases e : eqfB (txtO (encR (fun j => o.getD j 0) o.length).1) s
      ·exact absurd (.inr e) hc
      ·rfl
end Go.Proofs.YtkjcoehblekpdaaGreatDoorAv
namespace Go.Proofs.YtkjcoehblekpdaaGreatDoorAv
open Go Go.RowKit
def rnL : Nat → List UInt8 → List Int
 | 0, _ => []
 | f + 1, l => if l = [] then [] else ((Lib.decodeL l).1 : Int) :: rnL f (l.drop (Lib.decodeL l).2)
theorem rnG_rnL (s : ByteArray) : ∀ f p, rnG s f p = rnL f (s.data.toList.drop p)
 | 0, _ => rfl
 | f + 1, p => by
  have hs := size_data s
  rw [rnG, rnL]
  by_cases h : p < s.size
  ·rw [if_pos h, if_neg (by intro e; have := congrArg List.length e; rw [List.length_drop] at this; simp at this; omega), Lib.decodeL_drop, rnG_rnL s f, List.drop_drop]
  ·rw [if_neg h, if_pos (List.drop_eq_nil_of_le (by omega))]
theorem rns_rnL (s : ByteArray) : rns s = rnL s.data.toList.length s.data.toList := by
 unfold rns
 rw [rnG_rnL, size_data]
 rfl
def e8 (r : Int) : List UInt8 := (Utf8.encode r).data.toList
theorem val_lt {r : Int} (h0 : 0 ≤ r) (h1 : r < 2048) : Utf8.valid r = true := by
 unfold Utf8.valid
 rw [decide_eq_true h0, decide_eq_true (show r < 55296 by omega)]
 rfl
theorem e8_lt {r : Int} (h0 : 0 ≤ r) (h1 : r < 128) : e8 r = [UInt8.ofNat r.toNat] := by
 unfold e8 Utf8.encode
 rw [val_lt h0 (by omega), if_pos rfl]
 dsimp only
 rw [if_pos (by omega)]
theorem e8_two {r : Int} (h0 : 128 ≤ r) (h1 : r < 2048) : e8 r = [UInt8.ofNat (192 + r.toNat / 64), UInt8.ofNat (128 + r.toNat % 64)] := by
 unfold e8 Utf8.encode
 rw [val_lt (by omega) h1, if_pos rfl]
 dsimp only
 rw [if_neg (by omega), if_pos (by omega)]
def okR (r : Int) : Prop := 0 ≤ r ∧ r < 2048
theorem e8_ne {r : Int} (h : okR r) : e8 r ≠ [] := by
 by_cases e : r < 128
 ·rw [e8_lt h.1 e]; simp
 ·rw [e8_two (by omega) h.2]; simp
theorem dec_e8 {r : Int} (h : okR r) (rest : List UInt8) : Lib.decodeL (e8 r ++ rest) = (r.toNat, (e8 r).length) := by
 by_cases e : r < 128
 ·rw [e8_lt h.1 e, List.singleton_append, Lib.decodeL_ascii]
  ·rw [UInt8.toNat_ofNat', show r.toNat % 2 ^ 8 = r.toNat by have := h.1; omega]; rfl
  ·rw [UInt8.toNat_ofNat']; have := h.1; omega
 ·have h2 := h.2
  rw [e8_two (by omega) h2, Lib.decodeL_N]
  have g0 : (([UInt8.ofNat (192 + r.toNat / 64), UInt8.ofNat (128 + r.toNat % 64)] ++ rest).getD 0 0).toNat = 192 + r.toNat / 64 := by
   show (UInt8.ofNat _).toNat = _
   rw [UInt8.toNat_ofNat']; omega
  have g1 : (([UInt8.ofNat (192 + r.toNat / 64), UInt8.ofNat (128 + r.toNat % 64)] ++ rest).getD 1 0).toNat = 128 + r.toNat % 64 := by
   show (UInt8.ofNat _).toNat = _
   rw [UInt8.toNat_ofNat']; omega
  rw [g0, g1]
  unfold Lib.decodeN
  rw [if_neg (by omega), if_pos ⟨by omega, by rw [List.length_append]; show 1 < 2 + _; omega, by omega⟩, if_pos (by omega)]
  show (_, 2) = (_, 2)
  congr 1
  omega
theorem rnL_enc : ∀ (l : List Int), (∀ r ∈ l, okR r) → ∀ f, l.length ≤ f → rnL f (l.flatMap e8) = l
 | [], _, f, _ => by cases f <;> rfl
 | r :: l, h, 0, hf => by simp at hf
 | r :: l, h, f + 1, hf => by
  have hr := h r (by simp)
  rw [List.flatMap_cons, rnL, if_neg (by simp [e8_ne hr]), dec_e8 hr]
  dsimp only
  rw [List.drop_left', rnL_enc l (fun x hx => h x (by simp [hx])) f (by simpa using hf)]
  ·congr 1; have := hr.1; omega
  ·rfl
theorem valid_enc : ∀ (l : List Int), (∀ r ∈ l, okR r) → Lib.validD (l.flatMap e8) = true
 | [], _ => rfl
 | r :: l, h => by
  have hr := h r (by simp)
  rw [List.flatMap_cons, Lib.validD_step _ (by simp [e8_ne hr]), dec_e8 hr, if_neg (by have := hr.2; dsimp only; omega)]
  dsimp only
  rw [List.drop_left', valid_enc l fun x hx => h x (by simp [hx])]
  rfl
theorem flat8_len {l : List Int} (h : ∀ r ∈ l, okR r) : l.length ≤ (l.flatMap e8).length := by
 induction l with
 | nil => simp
 | cons r l ih =>
  have h1 := ih fun x hx => h x (by simp [hx])
  have h2 : 1 ≤ (e8 r).length := List.length_pos_iff.2 (e8_ne (h r (by simp)))
  rw [List.flatMap_cons, List.length_append, List.length_cons]; omega
theorem encB_list (l : List Int) : (encB l).data.toList = l.flatMap e8 := by
 have : ∀ (l : List Int) (a : ByteArray), (l.foldl (fun r n => r ++ Utf8.encode n) a).data.toList = a.data.toList ++ l.flatMap e8 := by
  intro l
  induction l with
  | nil => intro a; simp
  | cons x l ih =>
   intro a
   rw [List.foldl_cons, ih, ByteArray.data_append, Array.toList_append, List.flatMap_cons, List.append_assoc]
   rfl
 exact this l ⟨#[]⟩
theorem rns_enc {l : List Int} (h : ∀ r ∈ l, okR r) : rns (mk8 (l.flatMap e8)) = l := by
 rw [rns_rnL, mk8_data, rnL_enc l h _ (flat8_len h)]
theorem validB_enc {l : List Int} (h : ∀ r ∈ l, okR r) : validB (mk8 (l.flatMap e8)) = true := valid_enc l h
theorem decN_small {n b0 b1 b2 b3 : Nat} (h : (Lib.decodeN n b0 b1 b2 b3).1 < 128) : b0 < 128 ∧ Lib.decodeN n b0 b1 b2 b3 = (b0, 1) := by
 unfold Lib.decodeN at h ⊢
 by_cases e : b0 < 128
 ·rw [if_pos e]; exact ⟨e, rfl⟩
 ·exfalso
  rw [if_neg e] at h
  repeat' split at h
  all_goals (dsimp only at h; omega)
theorem decL_small {b : UInt8} {t : List UInt8} (h : (Lib.decodeL (b :: t)).1 < 128) : b.toNat < 128 ∧ Lib.decodeL (b :: t) = (b.toNat, 1) := by
 rw [Lib.decodeL_N] at h ⊢
 exact decN_small h
theorem rnL_pla : ∀ (f : Nat) (l : List UInt8), l.length ≤ f → (∀ r ∈ rnL f l, r < 128) → plaL l = true
 | _, [], _, _ => rfl
 | 0, b :: t, h, _ => by simp at h
 | f + 1, b :: t, h, hr => by
  rw [rnL, if_neg (by simp)] at hr
  have h1 : (Lib.decodeL (b :: t)).1 < 128 := by have := hr _ (List.mem_cons_self ..); omega
  obtain ⟨h2, h3⟩ := decL_small h1
  rw [h3] at hr
  have ih := rnL_pla f t (by simpa using h) fun r k => hr r (List.mem_cons_of_mem _ k)
  unfold plaL at ih ⊢
  rw [List.all_cons, ih, decide_eq_true h2]; rfl
theorem rnL_mem : ∀ (f : Nat) (l : List UInt8), ∀ r ∈ rnL f l, 0 ≤ r ∧ r ≤ 1114111 ∧ (r < 128 → ∃ c ∈ l, r = (c.toNat : Int))
 | 0, l, r, h => by simp [rnL] at h
 | f + 1, [], r, h => by simp [rnL] at h
 | f + 1, b :: t, r, h => by
  rw [rnL, if_neg (by simp)] at h
  rcases List.mem_cons.1 h with rfl | h
  ·have h1 := Lib.decodeL_rune (b :: t)
   refine ⟨by omega, by omega, fun k => ?_⟩
   obtain ⟨h2, h3⟩ := decL_small (show (Lib.decodeL (b :: t)).1 < 128 by omega)
   exact ⟨b, by simp, by rw [h3]⟩
  ·obtain ⟨q1, q2, q3⟩ := rnL_mem f _ r h
   exact ⟨q1, q2, fun k => by obtain ⟨c, hc, e⟩ := q3 k; exact ⟨c, List.mem_of_mem_drop hc, e⟩⟩
theorem rnL_len : ∀ (f : Nat) (l : List UInt8), (rnL f l).length ≤ f
 | 0, l => Nat.le_refl _
 | f + 1, l => by
  rw [rnL]
  split
  ·simp
  ·have := rnL_len f (l.drop (Lib.decodeL l).2)
   simp only [List.length_cons]; omega
theorem badC_ge {r : Int} (h : 128 ≤ r) : badC r = !good r := by
 unfold badC
 rw [decide_eq_true (show r ≥ 128 from h), decide_eq_false (show ¬ r < 128 by omega)]
 simp
theorem rgt_three : ∀ n : Fin 128, rgt (⟨#[97]⟩ ++ Utf8.encode (n.val : Int) ++ ⟨#[97]⟩) = okC (n.val : Int) := by decide +kernel
theorem badC_lt {r : Int} (h0 : 0 ≤ r) (h : r < 128) : badC r = !okC r := by
 obtain ⟨n, rfl⟩ : ∃ n : Nat, r = n := ⟨r.toNat, by omega⟩
 have := rgt_three ⟨n, by omega⟩
 dsimp only at this
 unfold badC
 rw [decide_eq_false (show ¬ (n : Int) ≥ 128 by omega), decide_eq_true h, this]
 simp
theorem good_rng {r : Int} (h : good r = true) : 223 ≤ r ∧ r ≤ 1119 := by
 unfold good at h
 simp only [Bool.or_eq_true, Bool.and_eq_true, decide_eq_true_eq] at h
 omega
theorem bdN_all {o : List Int} : ∀ n, n ≤ o.length → (bdN o n = false ↔ ∀ r ∈ o.take n, badC r = false)
 | 0, _ => by simp [bdN]
 | n + 1, h => by
  rw [bdN, Bool.or_eq_false_iff, bdN_all n (by omega), take_snoc' o n 0 h]
  constructor
  ·rintro ⟨h1, h2⟩ r hr
   rcases List.mem_append.1 hr with k | k
   ·exact h1 r k
   ·rw [List.mem_singleton.1 k]; exact h2
  ·intro h1
   exact ⟨fun r hr => h1 r (List.mem_append_left _ hr), h1 _ (by simp)⟩
theorem bdN_len {o : List Int} : bdN o o.length = false ↔ ∀ r ∈ o, badC r = false := by
 rw [bdN_all _ (Nat.le_refl _), List.take_length]
theorem byN_all {o : List Int} : ∀ n, n ≤ o.length → (byN o n = true ↔ ∃ r ∈ o.take n, 128 ≤ r)
 | 0, _ => by simp [byN]
 | n + 1, h => by
  rw [byN, Bool.or_eq_true, byN_all n (by omega), take_snoc' o n 0 h, decide_eq_true_eq]
  constructor
  ·rintro (⟨r, h1, h2⟩ | h2)
   ·exact ⟨r, List.mem_append_left _ h1, h2⟩
   ·exact ⟨_, List.mem_append_right _ (List.mem_singleton.2 rfl), h2⟩
  ·rintro ⟨r, h1, h2⟩
   rcases List.mem_append.1 h1 with k | k
   ·exact .inl ⟨r, k, h2⟩
   ·rw [List.mem_singleton.1 k] at h2; exact .inr h2
theorem byN_len {o : List Int} : byN o o.length = true ↔ ∃ r ∈ o, 128 ≤ r := by
 rw [byN_all _ (Nat.le_refl _), List.take_length]
theorem nb_rng {r : Int} (h0 : 0 ≤ r) (h : badC r = false) : r < 1120 ∧ (r < 128 → okC r = true) ∧ (128 ≤ r → good r = true) := by
 by_cases e : r < 128
 ·rw [badC_lt h0 e] at h
  exact ⟨by omega, fun _ => by simpa using h, fun k => by omega⟩
 ·rw [badC_ge (by omega)] at h
  have hg : good r = true := by simpa using h
  have := good_rng hg
  exact ⟨by omega, fun k => by omega, fun _ => hg⟩
theorem lowc_big {c : UInt8} (h : 90 < c.toNat) : lowc c = c := by unfold lowc; rw [if_neg (by omega)]
theorem low_e8 {r : Int} (h : okR r) (hc : ¬ (65 ≤ r ∧ r ≤ 90)) : (e8 r).map lowc = e8 r := by
 by_cases e : r < 128
 ·rw [e8_lt h.1 e, List.map_singleton]
  congr 1
  unfold lowc
  rw [if_neg]
  rw [UInt8.toNat_ofNat']
  have := h.1
  omega
 ·have h2 := h.2
  rw [e8_two (by omega) h2, List.map_cons, List.map_singleton, lowc_big (by rw [UInt8.toNat_ofNat']; omega), lowc_big (by rw [UInt8.toNat_ofNat']; omega)]
theorem low_enc {l : List Int} (h : ∀ r ∈ l, okR r) (hc : ∀ r ∈ l, ¬ (65 ≤ r ∧ r ≤ 90)) : (l.flatMap e8).map lowc = l.flatMap e8 := by
 induction l with
 | nil => rfl
 | cons r l ih => rw [List.flatMap_cons, List.map_append, low_e8 (h r (by simp)) (hc r (by simp)), ih (fun x hx => h x (by simp [hx])) fun x hx => hc x (by simp [hx])]
theorem pla_enc {l : List Int} (h : ∀ r ∈ l, okR r) {r : Int} (hr : r ∈ l) (h1 : 128 ≤ r) : ∃ c ∈ l.flatMap e8, 128 ≤ c.toNat := by
 refine ⟨UInt8.ofNat (192 + r.toNat / 64), List.mem_flatMap.2 ⟨r, hr, ?_⟩, ?_⟩
 ·rw [e8_two h1 (h r hr).2]; simp
 ·have := (h r hr).2
  rw [UInt8.toNat_ofNat']; omega
theorem dot_enc {l : List Int} (h : ∀ r ∈ l, okR r) (hd : ∀ r ∈ l, r ≠ 46) : ∀ c ∈ l.flatMap e8, c ≠ 46 := by
 intro c hc he
 subst he
 obtain ⟨r, hr, hm⟩ := List.mem_flatMap.1 hc
 have ho := h r hr
 by_cases e : r < 128
 ·rw [e8_lt ho.1 e, List.mem_singleton] at hm
  have := congrArg UInt8.toNat hm
  rw [UInt8.toNat_ofNat'] at this
  have h46 : (46 : UInt8).toNat = 46 := rfl
  have := ho.1
  exact hd r hr (by omega)
 ·have h2 := ho.2
  rw [e8_two (by omega) h2] at hm
  have h46 : (46 : UInt8).toNat = 46 := rfl
  rcases List.mem_cons.1 hm with k | k
  ·have := congrArg UInt8.toNat k
   rw [UInt8.toNat_ofNat'] at this; omega
  ·have := congrArg UInt8.toNat (List.mem_singleton.1 k)
   rw [UInt8.toNat_ofNat'] at this; omega
end Go.Proofs.YtkjcoehblekpdaaGreatDoorAv
namespace Go.Proofs.YtkjcoehblekpdaaGreatDoorAv
open Go Go.RowKit
def eL (l : List (List UInt8)) : Int := ee (fun x => (aL x).2) l
def jL (l : List (List UInt8)) : List UInt8 := join46 (l.map fun x => (aL x).1)
theorem tL_err {l : List (List UInt8)} (h : eL l ≠ 0) : tL l = ([], eL l) := by
 have : eR aL l = ([], eL l) := eR_err h
 rw [tL, this, if_neg]
 rintro ⟨h1, -⟩
 exact h h1
theorem tL_long {l : List (List UInt8)} (h : eL l = 0) (h2 : (jL l).length > 253) : tL l = ([], 2) := by
 have : eR aL l = (jL l, 0) := eR_ok h
 rw [tL, this, if_pos ⟨rfl, h2⟩]
theorem tL_ok {l : List (List UInt8)} (h : eL l = 0) (h2 : ¬ (jL l).length > 253) : tL l = (jL l, 0) := by
 have : eR aL l = (jL l, 0) := eR_ok h
 rw [tL, this, if_neg (fun k => h2 k.2)]
theorem tL_zero {l : List (List UInt8)} (h : (tL l).2 = 0) : eL l = 0 ∧ ¬ (jL l).length > 253 ∧ (tL l).1 = jL l := by
 by_cases e : eL l = 0
 ·by_cases h2 : (jL l).length > 253
  ·rw [tL_long e h2] at h; exact absurd h (by decide)
  ·exact ⟨e, h2, by rw [tL_ok e h2]⟩
 ·rw [tL_err e] at h; exact absurd h e
end Go.Proofs.YtkjcoehblekpdaaGreatDoorAv
