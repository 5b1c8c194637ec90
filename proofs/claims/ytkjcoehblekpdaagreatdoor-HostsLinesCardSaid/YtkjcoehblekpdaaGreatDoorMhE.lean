/- Own texts, put together. -/
import Derived.Test.YtkjcoehblekpdaaGreatDoorMhD
import Derived.WalkKit
import Derived.Deep.LoopGhost
import Derived.Laws.OwnMore
import Derived.Laws.CopyRow
import Derived.Lib.ConvBytes
import Derived.Below
import Derived.KernelRfl
import Derived.Scope
import Derived.Laws.BytesString
import Derived.DataElems
import Derived.Laws.Tables
import Derived.Laws.Cells
import Derived.Laws.StructEq
import Derived.Laws.RangeString
import Derived.BigQuiet
import Derived.Test.YtkjcoehblekpdaaGreatDoorProg
import Derived.Shelf.Strings.Builder1
import Derived.Shelf.Strings.Builder2
import Derived.Shelf.Strings.OnBuilder
import Derived.Shelf.Small.Wraps
import Derived.Shelf.Strings.BuilderF
import Derived.Shelf.Strings.BuilderK
import Derived.Shelf.Utf8.RuneCount
import Derived.Shelf.Strings.Builder2Cap
import Derived.Shelf.Strconv.Itoa0
import Derived.Shelf.Strconv.Itoa1
import Derived.Shelf.LaysM
import Derived.Shelf.Strconv.Itoa2
import Derived.Shelf.Strconv.Itoa3
import Derived.Shelf.Strconv.Itoa4
import Derived.Shelf.Strconv.Clone
import Derived.Shelf.Strconv.SyntaxError
import Derived.Shelf.LaysC
import Derived.Shelf.Strconv.ToError
import Derived.Shelf.Strconv.Lower
import Derived.Shelf.Strconv.ParseUint10
import Derived.Shelf.Strconv.ParseUint10Empty
import Derived.Shelf.Strconv.ParseUint10Any
import Derived.Shelf.Strconv.RangeError
import Derived.Shelf.Strconv.ToErrorRange
import Derived.Shelf.Strconv.ParseUintEmpty
import Derived.Shelf.Strconv.ParseUint10b64
import Derived.Shelf.Strconv.ParseUint10b32
import Derived.Shelf.Strconv.ParseUint10b16
import Derived.Shelf.Strconv.ParseUint10b8
import Derived.Shelf.Strconv.ParseUint10At
import Derived.Shelf.Strings.Search1
import Derived.Shelf.Strings.Search2
import Derived.Shelf.Strings.Search3
import Derived.Shelf.Strings.Cut
import Derived.Shelf.Strings.Count
import Derived.Shelf.Strings.Shaped
import Derived.Shelf.Strings.LastIndex
import Derived.Shelf.Strings.Prefix
import Derived.Shelf.Strings.Split
import Derived.Shelf.Strings.Replace
import Derived.Shelf.Strings.Fold
import Derived.Shelf.Strings.SplitShaped
import Derived.Shelf.Unicode.Decode
import Derived.Shelf.Strings.RuneCount
import Derived.Shelf.Unicode.DecodeSlow
import Derived.Shelf.Unicode.DecodeAny
import Derived.Shelf.Unicode.ValidAny
import Derived.Shelf.Unicode.CaseLookup
import Derived.Shelf.Unicode.CaseConvert
import Derived.Shelf.Strings.BuilderCap
import Derived.OpenShut
import Derived.SliceStrings
import Derived.ChangeSlices
import Derived.SizedLaws
import Derived.Carry
import Derived.Lib.LaidTab
import Derived.Shelf.Vars
import Derived.WideKeyArr2
import Derived.Lay
import Derived.Deep.DeepHandedRow
import Derived.Test.YtkjcoehblekpdaaGreatDoorRows
import Derived.Lib.LaidU8T
import Derived.Lib.Replace
import Derived.Lib.AppendIntMem
import Derived.Laws.BitsLemmas
set_option linter.unusedVariables false
set_option linter.unusedSimpArgs false
set_option maxRecDepth 100000
namespace Go.Proofs.YtkjcoehblekpdaaGreatDoorAv
open Go Go.RowKit
def side (s : ByteArray) : List ByteArray := if s = ⟨#[]⟩ then [] else splitS s ⟨#[58]⟩
structure LR where
 l : List ByteArray
 r : List ByteArray
def sixP (p : LR) (i : Nat) : Nat := if i < p.l.length then i else i + (8 - p.l.length - p.r.length)
def sixQ (p : LR) (i : Nat) : ByteArray := if i < p.l.length then pcs p.l i else pcs p.r (i - p.l.length)
def sixA (p : LR) : Nat → Nat → Int
 | 0 => fun _ => 0
 | i + 1 => fun k => if k = 2 * sixP p i + 1 then IntKind.u8.wrap ((pu16 (sixQ p i)).2 : Int) else if k = 2 * sixP p i then IntKind.u8.wrap (((pu16 (sixQ p i)).2 : Int).fdiv (2 ^ 8)) else sixA p i k
def sixOk (p : LR) : Nat → Bool
 | 0 => true
 | i + 1 => sixOk p i && decide ((pu16 (sixQ p i)).1 = 0)
def sixL (s : ByteArray) : LR := ⟨side (cutB s ⟨#[58, 58]⟩).1, side (cutB s ⟨#[58, 58]⟩).2.1⟩
def six (s : ByteArray) : (Nat → Int) × Bool :=
 if ((sixL s).l.length + (sixL s).r.length ≤ 8 ∧ ((cutB s ⟨#[58, 58]⟩).2.2 = true ∨ (sixL s).l.length = 8)) ∧ sixOk (sixL s) ((sixL s).l.length + (sixL s).r.length) = true then (sixA (sixL s) ((sixL s).l.length + (sixL s).r.length), true) else (zeroA, false)
structure UX where
 u : Unit
def sixT (s : ByteArray) : Nat := (sixL s).l.length + (sixL s).r.length
def sixZ : XRow := .one 27 true [X8 0, X8 0, X8 0, X8 0, X8 0, X8 0, X8 0, X8 0, X8 0, X8 0, X8 0, X8 0, X8 0, X8 0, X8 0, X8 0]
def sixS (s : ByteArray) : List (Nat × XV) := [(2, .ptr 0 0 0 0), (3, XB false), (7, strsL (sixL s).l), (8, strsL (sixL s).r)]
def sixU (s : ByteArray) : List (Nat × XV) := [(9, .ptr 1 0 0 0), (51, .fz ((sixL s).l.length + (sixL s).r.length) 1 fun j => [XT (sixQ (sixL s) j)]), (52, XI ((sixT s : Nat) : Int))]
def siA (s : ByteArray) : Inv where
 σ := UX
 S := fun x => ⟨sixS s, [(0, sixZ)], 1, false, []⟩
 inv := fun x => sixT s ≤ 8 ∧ ((cutB s ⟨#[58, 58]⟩).2.2 = true ∨ (sixL s).l.length = 8)
 μ := fun x => 0
def siI (s : ByteArray) : Inv where
 σ := IXAd
 S := fun x => ⟨(53, XI x.i) :: sixS s ++ sixU s, [(0, sixZ), (1, .one 27 true (adr (sixA (sixL s) x.i)).cells)], 2, false, []⟩
 inv := fun x => x.i ≤ sixT s ∧ sixOk (sixL s) x.i = true
 μ := fun x => sixT s - x.i
def siE (s : ByteArray) : Env := { loops := [(0, siI s)], cuts := [(9, siA s)], frz := [(5, [7]), (7, [8])], dec := [15] }
def siV_c (s : ByteArray) (x : IXAd) :=
 ((↑(pu16 (sixQ (sixL s) (↑x.i : Int).toNat)).snd : Int).fdiv ((2 : Int) ^ (8 : Nat)))
def siV_b (s : ByteArray) (x : IXAd) (x' : (siI s).σ) :=
 (((27 : TypeId) = (27 : TypeId) ∧ true = true) ∧ (bif ((2 : Int) * (↑x.i : Int)).toNat.beq 0 then IntKind.u8.wrap (siV_c s x) else sixA (sixL s) x.i 0) = sixA (sixL s) x'.i 0 ∧ (bif ((2 : Int) * (↑x.i : Int) + (1 : Int)).toNat.beq ((1 : Nat)) then IntKind.u8.wrap (↑(pu16 (sixQ (sixL s) (↑x.i : Int).toNat)).snd : Int) else bif ((2 : Int) * (↑x.i : Int)).toNat.beq ((1 : Nat)) then IntKind.u8.wrap (siV_c s x) else sixA (sixL s) x.i 1) = sixA (sixL s) x'.i 1 ∧ (bif ((2 : Int) * (↑x.i : Int) + (1 : Int)).toNat.beq ((2 : Nat)) then IntKind.u8.wrap (↑(pu16 (sixQ (sixL s) (↑x.i : Int).toNat)).snd : Int) else bif ((2 : Int) * (↑x.i : Int)).toNat.beq ((2 : Nat)) then IntKind.u8.wrap (siV_c s x) else sixA (sixL s) x.i 2) = sixA (sixL s) x'.i 2 ∧ (bif ((2 : Int) * (↑x.i : Int) + (1 : Int)).toNat.beq ((3 : Nat)) then IntKind.u8.wrap (↑(pu16 (sixQ (sixL s) (↑x.i : Int).toNat)).snd : Int) else bif ((2 : Int) * (↑x.i : Int)).toNat.beq ((3 : Nat)) then IntKind.u8.wrap (siV_c s x) else sixA (sixL s) x.i 3) = sixA (sixL s) x'.i 3 ∧ (bif ((2 : Int) * (↑x.i : Int) + (1 : Int)).toNat.beq ((4 : Nat)) then IntKind.u8.wrap (↑(pu16 (sixQ (sixL s) (↑x.i : Int).toNat)).snd : Int) else bif ((2 : Int) * (↑x.i : Int)).toNat.beq ((4 : Nat)) then IntKind.u8.wrap (siV_c s x) else sixA (sixL s) x.i 4) = sixA (sixL s) x'.i 4 ∧ (bif ((2 : Int) * (↑x.i : Int) + (1 : Int)).toNat.beq ((5 : Nat)) then IntKind.u8.wrap (↑(pu16 (sixQ (sixL s) (↑x.i : Int).toNat)).snd : Int) else bif ((2 : Int) * (↑x.i : Int)).toNat.beq ((5 : Nat)) then IntKind.u8.wrap (siV_c s x) else sixA (sixL s) x.i 5) = sixA (sixL s) x'.i 5 ∧ (bif ((2 : Int) * (↑x.i : Int) + (1 : Int)).toNat.beq ((6 : Nat)) then IntKind.u8.wrap (↑(pu16 (sixQ (sixL s) (↑x.i : Int).toNat)).snd : Int) else bif ((2 : Int) * (↑x.i : Int)).toNat.beq ((6 : Nat)) then IntKind.u8.wrap (siV_c s x) else sixA (sixL s) x.i 6) = sixA (sixL s) x'.i 6 ∧ (bif ((2 : Int) * (↑x.i : Int) + (1 : Int)).toNat.beq ((7 : Nat)) then IntKind.u8.wrap (↑(pu16 (sixQ (sixL s) (↑x.i : Int).toNat)).snd : Int) else bif ((2 : Int) * (↑x.i : Int)).toNat.beq ((7 : Nat)) then IntKind.u8.wrap (siV_c s x) else sixA (sixL s) x.i 7) = sixA (sixL s) x'.i 7 ∧ (bif ((2 : Int) * (↑x.i : Int) + (1 : Int)).toNat.beq ((8 : Nat)) then IntKind.u8.wrap (↑(pu16 (sixQ (sixL s) (↑x.i : Int).toNat)).snd : Int) else bif ((2 : Int) * (↑x.i : Int)).toNat.beq ((8 : Nat)) then IntKind.u8.wrap (siV_c s x) else sixA (sixL s) x.i 8) = sixA (sixL s) x'.i 8 ∧ (bif ((2 : Int) * (↑x.i : Int) + (1 : Int)).toNat.beq ((9 : Nat)) then IntKind.u8.wrap (↑(pu16 (sixQ (sixL s) (↑x.i : Int).toNat)).snd : Int) else bif ((2 : Int) * (↑x.i : Int)).toNat.beq ((9 : Nat)) then IntKind.u8.wrap (siV_c s x) else sixA (sixL s) x.i 9) = sixA (sixL s) x'.i 9 ∧ (bif ((2 : Int) * (↑x.i : Int) + (1 : Int)).toNat.beq ((10 : Nat)) then IntKind.u8.wrap (↑(pu16 (sixQ (sixL s) (↑x.i : Int).toNat)).snd : Int) else bif ((2 : Int) * (↑x.i : Int)).toNat.beq ((10 : Nat)) then IntKind.u8.wrap (siV_c s x) else sixA (sixL s) x.i 10) = sixA (sixL s) x'.i 10 ∧ (bif ((2 : Int) * (↑x.i : Int) + (1 : Int)).toNat.beq ((11 : Nat)) then IntKind.u8.wrap (↑(pu16 (sixQ (sixL s) (↑x.i : Int).toNat)).snd : Int) else bif ((2 : Int) * (↑x.i : Int)).toNat.beq ((11 : Nat)) then IntKind.u8.wrap (siV_c s x) else sixA (sixL s) x.i 11) = sixA (sixL s) x'.i 11 ∧ (bif ((2 : Int) * (↑x.i : Int) + (1 : Int)).toNat.beq ((12 : Nat)) then IntKind.u8.wrap (↑(pu16 (sixQ (sixL s) (↑x.i : Int).toNat)).snd : Int) else bif ((2 : Int) * (↑x.i : Int)).toNat.beq ((12 : Nat)) then IntKind.u8.wrap (siV_c s x) else sixA (sixL s) x.i 12) = sixA (sixL s) x'.i 12 ∧ (bif ((2 : Int) * (↑x.i : Int) + (1 : Int)).toNat.beq ((13 : Nat)) then IntKind.u8.wrap (↑(pu16 (sixQ (sixL s) (↑x.i : Int).toNat)).snd : Int) else bif ((2 : Int) * (↑x.i : Int)).toNat.beq ((13 : Nat)) then IntKind.u8.wrap (siV_c s x) else sixA (sixL s) x.i 13) = sixA (sixL s) x'.i 13 ∧ (bif ((2 : Int) * (↑x.i : Int) + (1 : Int)).toNat.beq ((14 : Nat)) then IntKind.u8.wrap (↑(pu16 (sixQ (sixL s) (↑x.i : Int).toNat)).snd : Int) else bif ((2 : Int) * (↑x.i : Int)).toNat.beq ((14 : Nat)) then IntKind.u8.wrap (siV_c s x) else sixA (sixL s) x.i 14) = sixA (sixL s) x'.i 14 ∧ (bif ((2 : Int) * (↑x.i : Int) + (1 : Int)).toNat.beq ((15 : Nat)) then IntKind.u8.wrap (↑(pu16 (sixQ (sixL s) (↑x.i : Int).toNat)).snd : Int) else bif ((2 : Int) * (↑x.i : Int)).toNat.beq ((15 : Nat)) then IntKind.u8.wrap (siV_c s x) else sixA (sixL s) x.i 15) = sixA (sixL s) x'.i 15 ∧ True)
def siV_d (s : ByteArray) (x : IXAd) :=
 ((↑x.i : Int) + ((8 : Int) - (↑(sixL s).l.length : Int) - (↑(sixL s).r.length : Int)))
def siV_a (s : ByteArray) (x : IXAd) (x' : (siI s).σ) :=
 (((27 : TypeId) = (27 : TypeId) ∧ true = true) ∧ (bif ((2 : Int) * (siV_d s x) + (1 : Int)).toNat.beq 0 then IntKind.u8.wrap (↑(pu16 (sixQ (sixL s) (↑x.i : Int).toNat)).snd : Int) else bif ((2 : Int) * (siV_d s x)).toNat.beq 0 then IntKind.u8.wrap (siV_c s x) else sixA (sixL s) x.i 0) = sixA (sixL s) x'.i 0 ∧ (bif ((2 : Int) * (siV_d s x) + (1 : Int)).toNat.beq ((1 : Nat)) then IntKind.u8.wrap (↑(pu16 (sixQ (sixL s) (↑x.i : Int).toNat)).snd : Int) else bif ((2 : Int) * (siV_d s x)).toNat.beq ((1 : Nat)) then IntKind.u8.wrap (siV_c s x) else sixA (sixL s) x.i 1) = sixA (sixL s) x'.i 1 ∧ (bif ((2 : Int) * (siV_d s x) + (1 : Int)).toNat.beq ((2 : Nat)) then IntKind.u8.wrap (↑(pu16 (sixQ (sixL s) (↑x.i : Int).toNat)).snd : Int) else bif ((2 : Int) * (siV_d s x)).toNat.beq ((2 : Nat)) then IntKind.u8.wrap (siV_c s x) else sixA (sixL s) x.i 2) = sixA (sixL s) x'.i 2 ∧ (bif ((2 : Int) * (siV_d s x) + (1 : Int)).toNat.beq ((3 : Nat)) then IntKind.u8.wrap (↑(pu16 (sixQ (sixL s) (↑x.i : Int).toNat)).snd : Int) else bif ((2 : Int) * (siV_d s x)).toNat.beq ((3 : Nat)) then IntKind.u8.wrap (siV_c s x) else sixA (sixL s) x.i 3) = sixA (sixL s) x'.i 3 ∧ (bif ((2 : Int) * (siV_d s x) + (1 : Int)).toNat.beq ((4 : Nat)) then IntKind.u8.wrap (↑(pu16 (sixQ (sixL s) (↑x.i : Int).toNat)).snd : Int) else bif ((2 : Int) * (siV_d s x)).toNat.beq ((4 : Nat)) then IntKind.u8.wrap (siV_c s x) else sixA (sixL s) x.i 4) = sixA (sixL s) x'.i 4 ∧ (bif ((2 : Int) * (siV_d s x) + (1 : Int)).toNat.beq ((5 : Nat)) then IntKind.u8.wrap (↑(pu16 (sixQ (sixL s) (↑x.i : Int).toNat)).snd : Int) else bif ((2 : Int) * (siV_d s x)).toNat.beq ((5 : Nat)) then IntKind.u8.wrap (siV_c s x) else sixA (sixL s) x.i 5) = sixA (sixL s) x'.i 5 ∧ (bif ((2 : Int) * (siV_d s x) + (1 : Int)).toNat.beq ((6 : Nat)) then IntKind.u8.wrap (↑(pu16 (sixQ (sixL s) (↑x.i : Int).toNat)).snd : Int) else bif ((2 : Int) * (siV_d s x)).toNat.beq ((6 : Nat)) then IntKind.u8.wrap (siV_c s x) else sixA (sixL s) x.i 6) = sixA (sixL s) x'.i 6 ∧ (bif ((2 : Int) * (siV_d s x) + (1 : Int)).toNat.beq ((7 : Nat)) then IntKind.u8.wrap (↑(pu16 (sixQ (sixL s) (↑x.i : Int).toNat)).snd : Int) else bif ((2 : Int) * (siV_d s x)).toNat.beq ((7 : Nat)) then IntKind.u8.wrap (siV_c s x) else sixA (sixL s) x.i 7) = sixA (sixL s) x'.i 7 ∧ (bif ((2 : Int) * (siV_d s x) + (1 : Int)).toNat.beq ((8 : Nat)) then IntKind.u8.wrap (↑(pu16 (sixQ (sixL s) (↑x.i : Int).toNat)).snd : Int) else bif ((2 : Int) * (siV_d s x)).toNat.beq ((8 : Nat)) then IntKind.u8.wrap (siV_c s x) else sixA (sixL s) x.i 8) = sixA (sixL s) x'.i 8 ∧ (bif ((2 : Int) * (siV_d s x) + (1 : Int)).toNat.beq ((9 : Nat)) then IntKind.u8.wrap (↑(pu16 (sixQ (sixL s) (↑x.i : Int).toNat)).snd : Int) else bif ((2 : Int) * (siV_d s x)).toNat.beq ((9 : Nat)) then IntKind.u8.wrap (siV_c s x) else sixA (sixL s) x.i 9) = sixA (sixL s) x'.i 9 ∧ (bif ((2 : Int) * (siV_d s x) + (1 : Int)).toNat.beq ((10 : Nat)) then IntKind.u8.wrap (↑(pu16 (sixQ (sixL s) (↑x.i : Int).toNat)).snd : Int) else bif ((2 : Int) * (siV_d s x)).toNat.beq ((10 : Nat)) then IntKind.u8.wrap (siV_c s x) else sixA (sixL s) x.i 10) = sixA (sixL s) x'.i 10 ∧ (bif ((2 : Int) * (siV_d s x) + (1 : Int)).toNat.beq ((11 : Nat)) then IntKind.u8.wrap (↑(pu16 (sixQ (sixL s) (↑x.i : Int).toNat)).snd : Int) else bif ((2 : Int) * (siV_d s x)).toNat.beq ((11 : Nat)) then IntKind.u8.wrap (siV_c s x) else sixA (sixL s) x.i 11) = sixA (sixL s) x'.i 11 ∧ (bif ((2 : Int) * (siV_d s x) + (1 : Int)).toNat.beq ((12 : Nat)) then IntKind.u8.wrap (↑(pu16 (sixQ (sixL s) (↑x.i : Int).toNat)).snd : Int) else bif ((2 : Int) * (siV_d s x)).toNat.beq ((12 : Nat)) then IntKind.u8.wrap (siV_c s x) else sixA (sixL s) x.i 12) = sixA (sixL s) x'.i 12 ∧ (bif ((2 : Int) * (siV_d s x) + (1 : Int)).toNat.beq ((13 : Nat)) then IntKind.u8.wrap (↑(pu16 (sixQ (sixL s) (↑x.i : Int).toNat)).snd : Int) else bif ((2 : Int) * (siV_d s x)).toNat.beq ((13 : Nat)) then IntKind.u8.wrap (siV_c s x) else sixA (sixL s) x.i 13) = sixA (sixL s) x'.i 13 ∧ (bif ((2 : Int) * (siV_d s x) + (1 : Int)).toNat.beq ((14 : Nat)) then IntKind.u8.wrap (↑(pu16 (sixQ (sixL s) (↑x.i : Int).toNat)).snd : Int) else bif ((2 : Int) * (siV_d s x)).toNat.beq ((14 : Nat)) then IntKind.u8.wrap (siV_c s x) else sixA (sixL s) x.i 14) = sixA (sixL s) x'.i 14 ∧ (bif ((2 : Int) * (siV_d s x) + (1 : Int)).toNat.beq ((15 : Nat)) then IntKind.u8.wrap (↑(pu16 (sixQ (sixL s) (↑x.i : Int).toNat)).snd : Int) else bif ((2 : Int) * (siV_d s x)).toNat.beq ((15 : Nat)) then IntKind.u8.wrap (siV_c s x) else sixA (sixL s) x.i 15) = sixA (sixL s) x'.i 15 ∧ True)
def siV_e (s : ByteArray) :=
 ((0 : Int) = (six s).fst 0 ∧ (0 : Int) = (six s).fst 1 ∧ (0 : Int) = (six s).fst 2 ∧ (0 : Int) = (six s).fst 3 ∧ (0 : Int) = (six s).fst 4 ∧ (0 : Int) = (six s).fst 5 ∧ (0 : Int) = (six s).fst 6 ∧ (0 : Int) = (six s).fst 7 ∧ (0 : Int) = (six s).fst 8 ∧ (0 : Int) = (six s).fst 9 ∧ (0 : Int) = (six s).fst 10 ∧ (0 : Int) = (six s).fst 11 ∧ (0 : Int) = (six s).fst 12 ∧ (0 : Int) = (six s).fst 13 ∧ (0 : Int) = (six s).fst 14 ∧ (0 : Int) = (six s).fst 15 ∧ True)
def siV_f :=
 (((27 : TypeId) = (27 : TypeId) ∧ true = true) ∧ (0 : Int) = (0 : Int) ∧ (0 : Int) = (0 : Int) ∧ (0 : Int) = (0 : Int) ∧ (0 : Int) = (0 : Int) ∧ (0 : Int) = (0 : Int) ∧ (0 : Int) = (0 : Int) ∧ (0 : Int) = (0 : Int) ∧ (0 : Int) = (0 : Int) ∧ (0 : Int) = (0 : Int) ∧ (0 : Int) = (0 : Int) ∧ (0 : Int) = (0 : Int) ∧ (0 : Int) = (0 : Int) ∧ (0 : Int) = (0 : Int) ∧ (0 : Int) = (0 : Int) ∧ (0 : Int) = (0 : Int) ∧ (0 : Int) = (0 : Int) ∧ True)
def siV_g (s : ByteArray) (x : IXAd) :=
 (decide ((↑x.i : Int) < (↑(sixT s) : Int)) = false → (sixA (sixL s) x.i 0 = (six s).fst 0 ∧ sixA (sixL s) x.i 1 = (six s).fst 1 ∧ sixA (sixL s) x.i 2 = (six s).fst 2 ∧ sixA (sixL s) x.i 3 = (six s).fst 3 ∧ sixA (sixL s) x.i 4 = (six s).fst 4 ∧ sixA (sixL s) x.i 5 = (six s).fst 5 ∧ sixA (sixL s) x.i 6 = (six s).fst 6 ∧ sixA (sixL s) x.i 7 = (six s).fst 7 ∧ sixA (sixL s) x.i 8 = (six s).fst 8 ∧ sixA (sixL s) x.i 9 = (six s).fst 9 ∧ sixA (sixL s) x.i 10 = (six s).fst 10 ∧ sixA (sixL s) x.i 11 = (six s).fst 11 ∧ sixA (sixL s) x.i 12 = (six s).fst 12 ∧ sixA (sixL s) x.i 13 = (six s).fst 13 ∧ sixA (sixL s) x.i 14 = (six s).fst 14 ∧ sixA (sixL s) x.i 15 = (six s).fst 15 ∧ True) ∧ true = (six s).snd ∧ True)
def siV_h (s : ByteArray) :=
 (cutB s ⟨#[58, 58]⟩)
def siV_i (s : ByteArray) :=
 ((XV.fz (sixL s).l.length 1 fun (i : Nat) => [XT ((sixL s).l.getD i ⟨#[]⟩)]) = XV.fz (sixL s).l.length 1 fun (i : Nat) => [XT ((sixL s).l.getD i ⟨#[]⟩)])
def siV_j (s : ByteArray) :=
 ((XV.fz (sixL s).r.length 1 fun (i : Nat) => [XT ((sixL s).r.getD i ⟨#[]⟩)]) = XV.fz (sixL s).r.length 1 fun (i : Nat) => [XT ((sixL s).r.getD i ⟨#[]⟩)])
def siV_k (s : ByteArray) (x : (siI s).σ) :=
 (((27 : Nat) = (27 : TypeId) ∧ true = true) ∧ (0 : Int) = sixA (sixL s) x.i 0 ∧ (0 : Int) = sixA (sixL s) x.i 1 ∧ (0 : Int) = sixA (sixL s) x.i 2 ∧ (0 : Int) = sixA (sixL s) x.i 3 ∧ (0 : Int) = sixA (sixL s) x.i 4 ∧ (0 : Int) = sixA (sixL s) x.i 5 ∧ (0 : Int) = sixA (sixL s) x.i 6 ∧ (0 : Int) = sixA (sixL s) x.i 7 ∧ (0 : Int) = sixA (sixL s) x.i 8 ∧ (0 : Int) = sixA (sixL s) x.i 9 ∧ (0 : Int) = sixA (sixL s) x.i 10 ∧ (0 : Int) = sixA (sixL s) x.i 11 ∧ (0 : Int) = sixA (sixL s) x.i 12 ∧ (0 : Int) = sixA (sixL s) x.i 13 ∧ (0 : Int) = sixA (sixL s) x.i 14 ∧ (0 : Int) = sixA (sixL s) x.i 15 ∧ True)
def siV_l :=
 (((27 : Nat) = (27 : TypeId) ∧ true = true) ∧ (0 : Int) = (0 : Int) ∧ (0 : Int) = (0 : Int) ∧ (0 : Int) = (0 : Int) ∧ (0 : Int) = (0 : Int) ∧ (0 : Int) = (0 : Int) ∧ (0 : Int) = (0 : Int) ∧ (0 : Int) = (0 : Int) ∧ (0 : Int) = (0 : Int) ∧ (0 : Int) = (0 : Int) ∧ (0 : Int) = (0 : Int) ∧ (0 : Int) = (0 : Int) ∧ (0 : Int) = (0 : Int) ∧ (0 : Int) = (0 : Int) ∧ (0 : Int) = (0 : Int) ∧ (0 : Int) = (0 : Int) ∧ (0 : Int) = (0 : Int) ∧ True)
def siV_m (s : ByteArray) :=
 ((XV.fz ((sixL s).l.length + (sixL s).r.length) 1 fun (j : Nat) => [XT (sixQ (sixL s) j)]) = XV.fz ((sixL s).l.length + (sixL s).r.length) 1 fun (j : Nat) => [XT (sixQ (sixL s) j)])
def siV_n (s : ByteArray) :=
 ((XV.fz ((sixL s).l.length + (sixL s).r.length) 1 fun (j : Nat) => [XT (bif j.blt (sixL s).l.length then (sixL s).l.getD j ⟨#[]⟩ else (sixL s).r.getD (j - (sixL s).l.length) ⟨#[]⟩)]) = XV.fz ((sixL s).l.length + (sixL s).r.length) 1 fun (j : Nat) => [XT (sixQ (sixL s) j)])
def siV_o (s : ByteArray) (x : IXAd) :=
 ((pu16 (sixQ (sixL s) (↑x.i : Int).toNat)).fst = (1 : Nat) → (sixQ (sixL s) (↑x.i : Int).toNat).size ≤ (1000000 : Nat) ∧ (116 : TypeId) = (116 : TypeId) ∧ ((1 : Int) = (1 : Int) ∨ (1 : Int) = (2 : Int)) ∧ (True → (siV_e s) ∧ false = (six s).snd ∧ True) ∧ True)
def siV_p (s : ByteArray) (x : IXAd) :=
 ((pu16 (sixQ (sixL s) (↑x.i : Int).toNat)).fst = (2 : Nat) → (sixQ (sixL s) (↑x.i : Int).toNat).size ≤ (1000000 : Nat) ∧ (116 : TypeId) = (116 : TypeId) ∧ ((2 : Int) = (1 : Int) ∨ (2 : Int) = (2 : Int)) ∧ (True → (siV_e s) ∧ false = (six s).snd ∧ True) ∧ True)
def siV_q (s : ByteArray) :=
 (splitS (siV_h s).fst ⟨#[58]⟩)
def siV_r (s : ByteArray) :=
 (splitS (siV_h s).snd.fst ⟨#[58]⟩)
def siV_s (s : ByteArray) :=
 ((siV_h s).snd.snd = true ∨ (sixL s).l.length = (8 : Nat))
def siV (s : ByteArray) : Prop :=
 s.size < (4294967281 : Nat) ∧ ((!decide ((siV_h s).fst = ⟨#[]⟩)) = true → (siV_h s).fst.size < (4294967281 : Nat) ∧ (1 : Nat) ≤ (1 : Nat) ∧ ((!decide ((siV_h s).snd.fst = ⟨#[]⟩)) = true → (siV_h s).snd.fst.size < (4294967281 : Nat) ∧ (1 : Nat) ≤ (1 : Nat) ∧ (in64 ((↑(siV_q s).length : Int) + (↑(siV_r s).length : Int)) ∧ ((decide ((↑(siV_q s).length : Int) + (↑(siV_r s).length : Int) > (8 : Int)) || !(siV_h s).snd.snd && (↑(siV_q s).length : Int) != (8 : Int)) = true → (siV_e s) ∧ false = (six s).snd ∧ True) ∧ ((decide ((↑(siV_q s).length : Int) + (↑(siV_r s).length : Int) > (8 : Int)) || !(siV_h s).snd.snd && (↑(siV_q s).length : Int) != (8 : Int)) = false → ∃ (x : (siA s).σ), (sixT s ≤ (8 : Nat) ∧ (siV_s s)) ∧ true = true ∧ XV.ptr 0 0 0 0 = XV.ptr 0 0 0 0 ∧ false = false ∧ ((XV.fz (siV_q s).length 1 fun (i : Nat) => [XT ((siV_q s).getD i ⟨#[]⟩)]) = XV.fz (sixL s).l.length 1 fun (i : Nat) => [XT ((sixL s).l.getD i ⟨#[]⟩)]) ∧ ((XV.fz (siV_r s).length 1 fun (i : Nat) => [XT ((siV_r s).getD i ⟨#[]⟩)]) = XV.fz (sixL s).r.length 1 fun (i : Nat) => [XT ((sixL s).r.getD i ⟨#[]⟩)]) ∧ siV_l ∧ True)) ∧ ∀ (x : UX), sixT s ≤ (8 : Nat) ∧ (siV_s s) → (↑(sixL s).l.length : Int) = (↑(sixL s).l.length : Int) ∧ (↑(sixL s).l.length : Int) = (↑(sixL s).l.length : Int) ∧ ((sixL s).l.length + (sixL s).r.length) * (16 : Nat) ≤ (140737488355328 : Nat) ∧ (sixL s).l.length + (sixL s).r.length ≤ (140737488355328 : Nat) ∧ (∃ (x : (siI s).σ), (x.i ≤ sixT s ∧ sixOk (sixL s) x.i = true) ∧ true = true ∧ (0 : Int) = (↑x.i : Int) ∧ XV.ptr 0 0 0 0 = XV.ptr 0 0 0 0 ∧ false = false ∧ (siV_i s) ∧ (siV_j s) ∧ XV.ptr 1 0 0 0 = XV.ptr 1 0 0 0 ∧ (siV_n s) ∧ (↑((sixL s).l.length + (sixL s).r.length) : Int) = (↑(sixT s) : Int) ∧ siV_f ∧ (siV_k s x) ∧ True) ∧ ∀ (x : IXAd), x.i ≤ sixT s ∧ sixOk (sixL s) x.i = true → (decide ((↑x.i : Int) < (↑(sixT s) : Int)) = true → (0 : Int) ≤ (↑x.i : Int) ∧ (↑x.i : Int) < (↑((sixL s).l.length + (sixL s).r.length) : Int) ∧ (sixQ (sixL s) (↑x.i : Int).toNat).size ≤ (1000000 : Nat) ∧ (16 : Int) = (16 : Int) ∧ ((pu16 (sixQ (sixL s) (↑x.i : Int).toNat)).fst = (0 : Nat) → (decide ((↑x.i : Int) ≥ (↑(sixL s).l.length : Int)) = true → in64 ((8 : Int) - (↑(sixL s).l.length : Int)) ∧ in64 ((8 : Int) - (↑(sixL s).l.length : Int) - (↑(sixL s).r.length : Int)) ∧ in64 (siV_d s x) ∧ in64 ((2 : Int) * (siV_d s x)) ∧ in64 ((2 : Int) * (siV_d s x)) ∧ in64 ((2 : Int) * (siV_d s x) + (1 : Int)) ∧ (0 : Int) ≤ (2 : Int) * (siV_d s x) ∧ (2 : Int) * (siV_d s x) < (↑(16 : Nat) : Int) ∧ ((2 : Int) * (siV_d s x)).toNat < [sixA (sixL s) x.i 0, sixA (sixL s) x.i 1, sixA (sixL s) x.i 2, sixA (sixL s) x.i 3, sixA (sixL s) x.i 4, sixA (sixL s) x.i 5, sixA (sixL s) x.i 6, sixA (sixL s) x.i 7, sixA (sixL s) x.i 8, sixA (sixL s) x.i 9, sixA (sixL s) x.i 10, sixA (sixL s) x.i 11, sixA (sixL s) x.i 12, sixA (sixL s) x.i 13, sixA (sixL s) x.i 14, sixA (sixL s) x.i 15].length ∧ (0 : Int) ≤ (2 : Int) * (siV_d s x) + (1 : Int) ∧ (2 : Int) * (siV_d s x) + (1 : Int) < (↑(16 : Nat) : Int) ∧ ((2 : Int) * (siV_d s x) + (1 : Int)).toNat < [bif ((2 : Int) * (siV_d s x)).toNat.beq 0 then IntKind.u8.wrap (siV_c s x) else sixA (sixL s) x.i 0, bif ((2 : Int) * (siV_d s x)).toNat.beq ((1 : Nat)) then IntKind.u8.wrap (siV_c s x) else sixA (sixL s) x.i 1, bif ((2 : Int) * (siV_d s x)).toNat.beq ((2 : Nat)) then IntKind.u8.wrap (siV_c s x) else sixA (sixL s) x.i 2, bif ((2 : Int) * (siV_d s x)).toNat.beq ((3 : Nat)) then IntKind.u8.wrap (siV_c s x) else sixA (sixL s) x.i 3, bif ((2 : Int) * (siV_d s x)).toNat.beq ((4 : Nat)) then IntKind.u8.wrap (siV_c s x) else sixA (sixL s) x.i 4, bif ((2 : Int) * (siV_d s x)).toNat.beq ((5 : Nat)) then IntKind.u8.wrap (siV_c s x) else sixA (sixL s) x.i 5, bif ((2 : Int) * (siV_d s x)).toNat.beq ((6 : Nat)) then IntKind.u8.wrap (siV_c s x) else sixA (sixL s) x.i 6, bif ((2 : Int) * (siV_d s x)).toNat.beq ((7 : Nat)) then IntKind.u8.wrap (siV_c s x) else sixA (sixL s) x.i 7, bif ((2 : Int) * (siV_d s x)).toNat.beq ((8 : Nat)) then IntKind.u8.wrap (siV_c s x) else sixA (sixL s) x.i 8, bif ((2 : Int) * (siV_d s x)).toNat.beq ((9 : Nat)) then IntKind.u8.wrap (siV_c s x) else sixA (sixL s) x.i 9, bif ((2 : Int) * (siV_d s x)).toNat.beq ((10 : Nat)) then IntKind.u8.wrap (siV_c s x) else sixA (sixL s) x.i 10, bif ((2 : Int) * (siV_d s x)).toNat.beq ((11 : Nat)) then IntKind.u8.wrap (siV_c s x) else sixA (sixL s) x.i 11, bif ((2 : Int) * (siV_d s x)).toNat.beq ((12 : Nat)) then IntKind.u8.wrap (siV_c s x) else sixA (sixL s) x.i 12, bif ((2 : Int) * (siV_d s x)).toNat.beq ((13 : Nat)) then IntKind.u8.wrap (siV_c s x) else sixA (sixL s) x.i 13, bif ((2 : Int) * (siV_d s x)).toNat.beq ((14 : Nat)) then IntKind.u8.wrap (siV_c s x) else sixA (sixL s) x.i 14, bif ((2 : Int) * (siV_d s x)).toNat.beq ((15 : Nat)) then IntKind.u8.wrap (siV_c s x) else sixA (sixL s) x.i 15].length ∧ in64 ((↑x.i : Int) + (1 : Int)) ∧ ∃ (x' : (siI s).σ), (x'.i ≤ sixT s ∧ sixOk (sixL s) x'.i = true) ∧ sixT s - x'.i < sixT s - x.i ∧ true = true ∧ (↑x.i : Int) + (1 : Int) = (↑x'.i : Int) ∧ XV.ptr 0 0 0 0 = XV.ptr 0 0 0 0 ∧ false = false ∧ (siV_i s) ∧ (siV_j s) ∧ XV.ptr 1 0 0 0 = XV.ptr 1 0 0 0 ∧ (siV_m s) ∧ (↑(sixT s) : Int) = (↑(sixT s) : Int) ∧ siV_f ∧ (siV_a s x x') ∧ True) ∧ (decide ((↑x.i : Int) ≥ (↑(sixL s).l.length : Int)) = false → in64 ((2 : Int) * (↑x.i : Int)) ∧ in64 ((2 : Int) * (↑x.i : Int)) ∧ in64 ((2 : Int) * (↑x.i : Int) + (1 : Int)) ∧ (0 : Int) ≤ (2 : Int) * (↑x.i : Int) ∧ (2 : Int) * (↑x.i : Int) < (↑(16 : Nat) : Int) ∧ ((2 : Int) * (↑x.i : Int)).toNat < [sixA (sixL s) x.i 0, sixA (sixL s) x.i 1, sixA (sixL s) x.i 2, sixA (sixL s) x.i 3, sixA (sixL s) x.i 4, sixA (sixL s) x.i 5, sixA (sixL s) x.i 6, sixA (sixL s) x.i 7, sixA (sixL s) x.i 8, sixA (sixL s) x.i 9, sixA (sixL s) x.i 10, sixA (sixL s) x.i 11, sixA (sixL s) x.i 12, sixA (sixL s) x.i 13, sixA (sixL s) x.i 14, sixA (sixL s) x.i 15].length ∧ (0 : Int) ≤ (2 : Int) * (↑x.i : Int) + (1 : Int) ∧ (2 : Int) * (↑x.i : Int) + (1 : Int) < (↑(16 : Nat) : Int) ∧ ((2 : Int) * (↑x.i : Int) + (1 : Int)).toNat < [bif ((2 : Int) * (↑x.i : Int)).toNat.beq 0 then IntKind.u8.wrap (siV_c s x) else sixA (sixL s) x.i 0, bif ((2 : Int) * (↑x.i : Int)).toNat.beq ((1 : Nat)) then IntKind.u8.wrap (siV_c s x) else sixA (sixL s) x.i 1, bif ((2 : Int) * (↑x.i : Int)).toNat.beq ((2 : Nat)) then IntKind.u8.wrap (siV_c s x) else sixA (sixL s) x.i 2, bif ((2 : Int) * (↑x.i : Int)).toNat.beq ((3 : Nat)) then IntKind.u8.wrap (siV_c s x) else sixA (sixL s) x.i 3, bif ((2 : Int) * (↑x.i : Int)).toNat.beq ((4 : Nat)) then IntKind.u8.wrap (siV_c s x) else sixA (sixL s) x.i 4, bif ((2 : Int) * (↑x.i : Int)).toNat.beq ((5 : Nat)) then IntKind.u8.wrap (siV_c s x) else sixA (sixL s) x.i 5, bif ((2 : Int) * (↑x.i : Int)).toNat.beq ((6 : Nat)) then IntKind.u8.wrap (siV_c s x) else sixA (sixL s) x.i 6, bif ((2 : Int) * (↑x.i : Int)).toNat.beq ((7 : Nat)) then IntKind.u8.wrap (siV_c s x) else sixA (sixL s) x.i 7, bif ((2 : Int) * (↑x.i : Int)).toNat.beq ((8 : Nat)) then IntKind.u8.wrap (siV_c s x) else sixA (sixL s) x.i 8, bif ((2 : Int) * (↑x.i : Int)).toNat.beq ((9 : Nat)) then IntKind.u8.wrap (siV_c s x) else sixA (sixL s) x.i 9, bif ((2 : Int) * (↑x.i : Int)).toNat.beq ((10 : Nat)) then IntKind.u8.wrap (siV_c s x) else sixA (sixL s) x.i 10, bif ((2 : Int) * (↑x.i : Int)).toNat.beq ((11 : Nat)) then IntKind.u8.wrap (siV_c s x) else sixA (sixL s) x.i 11, bif ((2 : Int) * (↑x.i : Int)).toNat.beq ((12 : Nat)) then IntKind.u8.wrap (siV_c s x) else sixA (sixL s) x.i 12, bif ((2 : Int) * (↑x.i : Int)).toNat.beq ((13 : Nat)) then IntKind.u8.wrap (siV_c s x) else sixA (sixL s) x.i 13, bif ((2 : Int) * (↑x.i : Int)).toNat.beq ((14 : Nat)) then IntKind.u8.wrap (siV_c s x) else sixA (sixL s) x.i 14, bif ((2 : Int) * (↑x.i : Int)).toNat.beq ((15 : Nat)) then IntKind.u8.wrap (siV_c s x) else sixA (sixL s) x.i 15].length ∧ in64 ((↑x.i : Int) + (1 : Int)) ∧ ∃ (x' : (siI s).σ), (x'.i ≤ sixT s ∧ sixOk (sixL s) x'.i = true) ∧ sixT s - x'.i < sixT s - x.i ∧ true = true ∧ (↑x.i : Int) + (1 : Int) = (↑x'.i : Int) ∧ XV.ptr 0 0 0 0 = XV.ptr 0 0 0 0 ∧ false = false ∧ (siV_i s) ∧ (siV_j s) ∧ XV.ptr 1 0 0 0 = XV.ptr 1 0 0 0 ∧ (siV_m s) ∧ (↑(sixT s) : Int) = (↑(sixT s) : Int) ∧ siV_f ∧ (siV_b s x x') ∧ True)) ∧ (siV_o s x) ∧ (siV_p s x) ∧ True) ∧ (siV_g s x)) ∧ ((!decide ((siV_h s).snd.fst = ⟨#[]⟩)) = false → (in64 ((↑(siV_q s).length : Int) + (↑(0 : Nat) : Int)) ∧ ((decide ((↑(siV_q s).length : Int) + (↑(0 : Nat) : Int) > (8 : Int)) || !(siV_h s).snd.snd && (↑(siV_q s).length : Int) != (8 : Int)) = true → (siV_e s) ∧ false = (six s).snd ∧ True) ∧ ((decide ((↑(siV_q s).length : Int) + (↑(0 : Nat) : Int) > (8 : Int)) || !(siV_h s).snd.snd && (↑(siV_q s).length : Int) != (8 : Int)) = false → ∃ (x : (siA s).σ), (sixT s ≤ (8 : Nat) ∧ (siV_s s)) ∧ true = true ∧ XV.ptr 0 0 0 0 = XV.ptr 0 0 0 0 ∧ false = false ∧ ((XV.fz (siV_q s).length 1 fun (i : Nat) => [XT ((siV_q s).getD i ⟨#[]⟩)]) = XV.fz (sixL s).l.length 1 fun (i : Nat) => [XT ((sixL s).l.getD i ⟨#[]⟩)]) ∧ ((XV.fz 0 1 fun (x : Nat) => [XT (⟨#[]⟩)]) = XV.fz (sixL s).r.length 1 fun (i : Nat) => [XT ((sixL s).r.getD i ⟨#[]⟩)]) ∧ siV_l ∧ True)) ∧ ∀ (x : UX), sixT s ≤ (8 : Nat) ∧ (siV_s s) → (↑(sixL s).l.length : Int) = (↑(sixL s).l.length : Int) ∧ (↑(sixL s).l.length : Int) = (↑(sixL s).l.length : Int) ∧ ((sixL s).l.length + (sixL s).r.length) * (16 : Nat) ≤ (140737488355328 : Nat) ∧ (sixL s).l.length + (sixL s).r.length ≤ (140737488355328 : Nat) ∧ (∃ (x : (siI s).σ), (x.i ≤ sixT s ∧ sixOk (sixL s) x.i = true) ∧ true = true ∧ (0 : Int) = (↑x.i : Int) ∧ XV.ptr 0 0 0 0 = XV.ptr 0 0 0 0 ∧ false = false ∧ (siV_i s) ∧ (siV_j s) ∧ XV.ptr 1 0 0 0 = XV.ptr 1 0 0 0 ∧ (siV_n s) ∧ (↑((sixL s).l.length + (sixL s).r.length) : Int) = (↑(sixT s) : Int) ∧ siV_f ∧ (siV_k s x) ∧ True) ∧ ∀ (x : IXAd), x.i ≤ sixT s ∧ sixOk (sixL s) x.i = true → (decide ((↑x.i : Int) < (↑(sixT s) : Int)) = true → (0 : Int) ≤ (↑x.i : Int) ∧ (↑x.i : Int) < (↑((sixL s).l.length + (sixL s).r.length) : Int) ∧ (sixQ (sixL s) (↑x.i : Int).toNat).size ≤ (1000000 : Nat) ∧ (16 : Int) = (16 : Int) ∧ ((pu16 (sixQ (sixL s) (↑x.i : Int).toNat)).fst = (0 : Nat) → (decide ((↑x.i : Int) ≥ (↑(sixL s).l.length : Int)) = true → in64 ((8 : Int) - (↑(sixL s).l.length : Int)) ∧ in64 ((8 : Int) - (↑(sixL s).l.length : Int) - (↑(sixL s).r.length : Int)) ∧ in64 (siV_d s x) ∧ in64 ((2 : Int) * (siV_d s x)) ∧ in64 ((2 : Int) * (siV_d s x)) ∧ in64 ((2 : Int) * (siV_d s x) + (1 : Int)) ∧ (0 : Int) ≤ (2 : Int) * (siV_d s x) ∧ (2 : Int) * (siV_d s x) < (↑(16 : Nat) : Int) ∧ ((2 : Int) * (siV_d s x)).toNat < [sixA (sixL s) x.i 0, sixA (sixL s) x.i 1, sixA (sixL s) x.i 2, sixA (sixL s) x.i 3, sixA (sixL s) x.i 4, sixA (sixL s) x.i 5, sixA (sixL s) x.i 6, sixA (sixL s) x.i 7, sixA (sixL s) x.i 8, sixA (sixL s) x.i 9, sixA (sixL s) x.i 10, sixA (sixL s) x.i 11, sixA (sixL s) x.i 12, sixA (sixL s) x.i 13, sixA (sixL s) x.i 14, sixA (sixL s) x.i 15].length ∧ (0 : Int) ≤ (2 : Int) * (siV_d s x) + (1 : Int) ∧ (2 : Int) * (siV_d s x) + (1 : Int) < (↑(16 : Nat) : Int) ∧ ((2 : Int) * (siV_d s x) + (1 : Int)).toNat < [bif ((2 : Int) * (siV_d s x)).toNat.beq 0 then IntKind.u8.wrap (siV_c s x) else sixA (sixL s) x.i 0, bif ((2 : Int) * (siV_d s x)).toNat.beq ((1 : Nat)) then IntKind.u8.wrap (siV_c s x) else sixA (sixL s) x.i 1, bif ((2 : Int) * (siV_d s x)).toNat.beq ((2 : Nat)) then IntKind.u8.wrap (siV_c s x) else sixA (sixL s) x.i 2, bif ((2 : Int) * (siV_d s x)).toNat.beq ((3 : Nat)) then IntKind.u8.wrap (siV_c s x) else sixA (sixL s) x.i 3, bif ((2 : Int) * (siV_d s x)).toNat.beq ((4 : Nat)) then IntKind.u8.wrap (siV_c s x) else sixA (sixL s) x.i 4, bif ((2 : Int) * (siV_d s x)).toNat.beq ((5 : Nat)) then IntKind.u8.wrap (siV_c s x) else sixA (sixL s) x.i 5, bif ((2 : Int) * (siV_d s x)).toNat.beq ((6 : Nat)) then IntKind.u8.wrap (siV_c s x) else sixA (sixL s) x.i 6, bif ((2 : Int) * (siV_d s x)).toNat.beq ((7 : Nat)) then IntKind.u8.wrap (siV_c s x) else sixA (sixL s) x.i 7, bif ((2 : Int) * (siV_d s x)).toNat.beq ((8 : Nat)) then IntKind.u8.wrap (siV_c s x) else sixA (sixL s) x.i 8, bif ((2 : Int) * (siV_d s x)).toNat.beq ((9 : Nat)) then IntKind.u8.wrap (siV_c s x) else sixA (sixL s) x.i 9, bif ((2 : Int) * (siV_d s x)).toNat.beq ((10 : Nat)) then IntKind.u8.wrap (siV_c s x) else sixA (sixL s) x.i 10, bif ((2 : Int) * (siV_d s x)).toNat.beq ((11 : Nat)) then IntKind.u8.wrap (siV_c s x) else sixA (sixL s) x.i 11, bif ((2 : Int) * (siV_d s x)).toNat.beq ((12 : Nat)) then IntKind.u8.wrap (siV_c s x) else sixA (sixL s) x.i 12, bif ((2 : Int) * (siV_d s x)).toNat.beq ((13 : Nat)) then IntKind.u8.wrap (siV_c s x) else sixA (sixL s) x.i 13, bif ((2 : Int) * (siV_d s x)).toNat.beq ((14 : Nat)) then IntKind.u8.wrap (siV_c s x) else sixA (sixL s) x.i 14, bif ((2 : Int) * (siV_d s x)).toNat.beq ((15 : Nat)) then IntKind.u8.wrap (siV_c s x) else sixA (sixL s) x.i 15].length ∧ in64 ((↑x.i : Int) + (1 : Int)) ∧ ∃ (x' : (siI s).σ), (x'.i ≤ sixT s ∧ sixOk (sixL s) x'.i = true) ∧ sixT s - x'.i < sixT s - x.i ∧ true = true ∧ (↑x.i : Int) + (1 : Int) = (↑x'.i : Int) ∧ XV.ptr 0 0 0 0 = XV.ptr 0 0 0 0 ∧ false = false ∧ (siV_i s) ∧ (siV_j s) ∧ XV.ptr 1 0 0 0 = XV.ptr 1 0 0 0 ∧ (siV_m s) ∧ (↑(sixT s) : Int) = (↑(sixT s) : Int) ∧ siV_f ∧ (siV_a s x x') ∧ True) ∧ (decide ((↑x.i : Int) ≥ (↑(sixL s).l.length : Int)) = false → in64 ((2 : Int) * (↑x.i : Int)) ∧ in64 ((2 : Int) * (↑x.i : Int)) ∧ in64 ((2 : Int) * (↑x.i : Int) + (1 : Int)) ∧ (0 : Int) ≤ (2 : Int) * (↑x.i : Int) ∧ (2 : Int) * (↑x.i : Int) < (↑(16 : Nat) : Int) ∧ ((2 : Int) * (↑x.i : Int)).toNat < [sixA (sixL s) x.i 0, sixA (sixL s) x.i 1, sixA (sixL s) x.i 2, sixA (sixL s) x.i 3, sixA (sixL s) x.i 4, sixA (sixL s) x.i 5, sixA (sixL s) x.i 6, sixA (sixL s) x.i 7, sixA (sixL s) x.i 8, sixA (sixL s) x.i 9, sixA (sixL s) x.i 10, sixA (sixL s) x.i 11, sixA (sixL s) x.i 12, sixA (sixL s) x.i 13, sixA (sixL s) x.i 14, sixA (sixL s) x.i 15].length ∧ (0 : Int) ≤ (2 : Int) * (↑x.i : Int) + (1 : Int) ∧ (2 : Int) * (↑x.i : Int) + (1 : Int) < (↑(16 : Nat) : Int) ∧ ((2 : Int) * (↑x.i : Int) + (1 : Int)).toNat < [bif ((2 : Int) * (↑x.i : Int)).toNat.beq 0 then IntKind.u8.wrap (siV_c s x) else sixA (sixL s) x.i 0, bif ((2 : Int) * (↑x.i : Int)).toNat.beq ((1 : Nat)) then IntKind.u8.wrap (siV_c s x) else sixA (sixL s) x.i 1, bif ((2 : Int) * (↑x.i : Int)).toNat.beq ((2 : Nat)) then IntKind.u8.wrap (siV_c s x) else sixA (sixL s) x.i 2, bif ((2 : Int) * (↑x.i : Int)).toNat.beq ((3 : Nat)) then IntKind.u8.wrap (siV_c s x) else sixA (sixL s) x.i 3, bif ((2 : Int) * (↑x.i : Int)).toNat.beq ((4 : Nat)) then IntKind.u8.wrap (siV_c s x) else sixA (sixL s) x.i 4, bif ((2 : Int) * (↑x.i : Int)).toNat.beq ((5 : Nat)) then IntKind.u8.wrap (siV_c s x) else sixA (sixL s) x.i 5, bif ((2 : Int) * (↑x.i : Int)).toNat.beq ((6 : Nat)) then IntKind.u8.wrap (siV_c s x) else sixA (sixL s) x.i 6, bif ((2 : Int) * (↑x.i : Int)).toNat.beq ((7 : Nat)) then IntKind.u8.wrap (siV_c s x) else sixA (sixL s) x.i 7, bif ((2 : Int) * (↑x.i : Int)).toNat.beq ((8 : Nat)) then IntKind.u8.wrap (siV_c s x) else sixA (sixL s) x.i 8, bif ((2 : Int) * (↑x.i : Int)).toNat.beq ((9 : Nat)) then IntKind.u8.wrap (siV_c s x) else sixA (sixL s) x.i 9, bif ((2 : Int) * (↑x.i : Int)).toNat.beq ((10 : Nat)) then IntKind.u8.wrap (siV_c s x) else sixA (sixL s) x.i 10, bif ((2 : Int) * (↑x.i : Int)).toNat.beq ((11 : Nat)) then IntKind.u8.wrap (siV_c s x) else sixA (sixL s) x.i 11, bif ((2 : Int) * (↑x.i : Int)).toNat.beq ((12 : Nat)) then IntKind.u8.wrap (siV_c s x) else sixA (sixL s) x.i 12, bif ((2 : Int) * (↑x.i : Int)).toNat.beq ((13 : Nat)) then IntKind.u8.wrap (siV_c s x) else sixA (sixL s) x.i 13, bif ((2 : Int) * (↑x.i : Int)).toNat.beq ((14 : Nat)) then IntKind.u8.wrap (siV_c s x) else sixA (sixL s) x.i 14, bif ((2 : Int) * (↑x.i : Int)).toNat.beq ((15 : Nat)) then IntKind.u8.wrap (siV_c s x) else sixA (sixL s) x.i 15].length ∧ in64 ((↑x.i : Int) + (1 : Int)) ∧ ∃ (x' : (siI s).σ), (x'.i ≤ sixT s ∧ sixOk (sixL s) x'.i = true) ∧ sixT s - x'.i < sixT s - x.i ∧ true = true ∧ (↑x.i : Int) + (1 : Int) = (↑x'.i : Int) ∧ XV.ptr 0 0 0 0 = XV.ptr 0 0 0 0 ∧ false = false ∧ (siV_i s) ∧ (siV_j s) ∧ XV.ptr 1 0 0 0 = XV.ptr 1 0 0 0 ∧ (siV_m s) ∧ (↑(sixT s) : Int) = (↑(sixT s) : Int) ∧ siV_f ∧ (siV_b s x x') ∧ True)) ∧ (siV_o s x) ∧ (siV_p s x) ∧ True) ∧ (siV_g s x))) ∧ ((!decide ((siV_h s).fst = ⟨#[]⟩)) = false → ((!decide ((siV_h s).snd.fst = ⟨#[]⟩)) = true → (siV_h s).snd.fst.size < (4294967281 : Nat) ∧ (1 : Nat) ≤ (1 : Nat) ∧ (in64 ((↑(0 : Nat) : Int) + (↑(siV_r s).length : Int)) ∧ ((decide ((↑(0 : Nat) : Int) + (↑(siV_r s).length : Int) > (8 : Int)) || !(siV_h s).snd.snd && (↑(0 : Nat) : Int) != (8 : Int)) = true → (siV_e s) ∧ false = (six s).snd ∧ True) ∧ ((decide ((↑(0 : Nat) : Int) + (↑(siV_r s).length : Int) > (8 : Int)) || !(siV_h s).snd.snd && (↑(0 : Nat) : Int) != (8 : Int)) = false → ∃ (x : (siA s).σ), (sixT s ≤ (8 : Nat) ∧ (siV_s s)) ∧ true = true ∧ XV.ptr 0 0 0 0 = XV.ptr 0 0 0 0 ∧ false = false ∧ ((XV.fz 0 1 fun (x : Nat) => [XT (⟨#[]⟩)]) = XV.fz (sixL s).l.length 1 fun (i : Nat) => [XT ((sixL s).l.getD i ⟨#[]⟩)]) ∧ ((XV.fz (siV_r s).length 1 fun (i : Nat) => [XT ((siV_r s).getD i ⟨#[]⟩)]) = XV.fz (sixL s).r.length 1 fun (i : Nat) => [XT ((sixL s).r.getD i ⟨#[]⟩)]) ∧ siV_l ∧ True)) ∧ ∀ (x : UX), sixT s ≤ (8 : Nat) ∧ (siV_s s) → (↑(sixL s).l.length : Int) = (↑(sixL s).l.length : Int) ∧ (↑(sixL s).l.length : Int) = (↑(sixL s).l.length : Int) ∧ ((sixL s).l.length + (sixL s).r.length) * (16 : Nat) ≤ (140737488355328 : Nat) ∧ (sixL s).l.length + (sixL s).r.length ≤ (140737488355328 : Nat) ∧ (∃ (x : (siI s).σ), (x.i ≤ sixT s ∧ sixOk (sixL s) x.i = true) ∧ true = true ∧ (0 : Int) = (↑x.i : Int) ∧ XV.ptr 0 0 0 0 = XV.ptr 0 0 0 0 ∧ false = false ∧ (siV_i s) ∧ (siV_j s) ∧ XV.ptr 1 0 0 0 = XV.ptr 1 0 0 0 ∧ (siV_n s) ∧ (↑((sixL s).l.length + (sixL s).r.length) : Int) = (↑(sixT s) : Int) ∧ siV_f ∧ (siV_k s x) ∧ True) ∧ ∀ (x : IXAd), x.i ≤ sixT s ∧ sixOk (sixL s) x.i = true → (decide ((↑x.i : Int) < (↑(sixT s) : Int)) = true → (0 : Int) ≤ (↑x.i : Int) ∧ (↑x.i : Int) < (↑((sixL s).l.length + (sixL s).r.length) : Int) ∧ (sixQ (sixL s) (↑x.i : Int).toNat).size ≤ (1000000 : Nat) ∧ (16 : Int) = (16 : Int) ∧ ((pu16 (sixQ (sixL s) (↑x.i : Int).toNat)).fst = (0 : Nat) → (decide ((↑x.i : Int) ≥ (↑(sixL s).l.length : Int)) = true → in64 ((8 : Int) - (↑(sixL s).l.length : Int)) ∧ in64 ((8 : Int) - (↑(sixL s).l.length : Int) - (↑(sixL s).r.length : Int)) ∧ in64 (siV_d s x) ∧ in64 ((2 : Int) * (siV_d s x)) ∧ in64 ((2 : Int) * (siV_d s x)) ∧ in64 ((2 : Int) * (siV_d s x) + (1 : Int)) ∧ (0 : Int) ≤ (2 : Int) * (siV_d s x) ∧ (2 : Int) * (siV_d s x) < (↑(16 : Nat) : Int) ∧ ((2 : Int) * (siV_d s x)).toNat < [sixA (sixL s) x.i 0, sixA (sixL s) x.i 1, sixA (sixL s) x.i 2, sixA (sixL s) x.i 3, sixA (sixL s) x.i 4, sixA (sixL s) x.i 5, sixA (sixL s) x.i 6, sixA (sixL s) x.i 7, sixA (sixL s) x.i 8, sixA (sixL s) x.i 9, sixA (sixL s) x.i 10, sixA (sixL s) x.i 11, sixA (sixL s) x.i 12, sixA (sixL s) x.i 13, sixA (sixL s) x.i 14, sixA (sixL s) x.i 15].length ∧ (0 : Int) ≤ (2 : Int) * (siV_d s x) + (1 : Int) ∧ (2 : Int) * (siV_d s x) + (1 : Int) < (↑(16 : Nat) : Int) ∧ ((2 : Int) * (siV_d s x) + (1 : Int)).toNat < [bif ((2 : Int) * (siV_d s x)).toNat.beq 0 then IntKind.u8.wrap (siV_c s x) else sixA (sixL s) x.i 0, bif ((2 : Int) * (siV_d s x)).toNat.beq ((1 : Nat)) then IntKind.u8.wrap (siV_c s x) else sixA (sixL s) x.i 1, bif ((2 : Int) * (siV_d s x)).toNat.beq ((2 : Nat)) then IntKind.u8.wrap (siV_c s x) else sixA (sixL s) x.i 2, bif ((2 : Int) * (siV_d s x)).toNat.beq ((3 : Nat)) then IntKind.u8.wrap (siV_c s x) else sixA (sixL s) x.i 3, bif ((2 : Int) * (siV_d s x)).toNat.beq ((4 : Nat)) then IntKind.u8.wrap (siV_c s x) else sixA (sixL s) x.i 4, bif ((2 : Int) * (siV_d s x)).toNat.beq ((5 : Nat)) then IntKind.u8.wrap (siV_c s x) else sixA (sixL s) x.i 5, bif ((2 : Int) * (siV_d s x)).toNat.beq ((6 : Nat)) then IntKind.u8.wrap (siV_c s x) else sixA (sixL s) x.i 6, bif ((2 : Int) * (siV_d s x)).toNat.beq ((7 : Nat)) then IntKind.u8.wrap (siV_c s x) else sixA (sixL s) x.i 7, bif ((2 : Int) * (siV_d s x)).toNat.beq ((8 : Nat)) then IntKind.u8.wrap (siV_c s x) else sixA (sixL s) x.i 8, bif ((2 : Int) * (siV_d s x)).toNat.beq ((9 : Nat)) then IntKind.u8.wrap (siV_c s x) else sixA (sixL s) x.i 9, bif ((2 : Int) * (siV_d s x)).toNat.beq ((10 : Nat)) then IntKind.u8.wrap (siV_c s x) else sixA (sixL s) x.i 10, bif ((2 : Int) * (siV_d s x)).toNat.beq ((11 : Nat)) then IntKind.u8.wrap (siV_c s x) else sixA (sixL s) x.i 11, bif ((2 : Int) * (siV_d s x)).toNat.beq ((12 : Nat)) then IntKind.u8.wrap (siV_c s x) else sixA (sixL s) x.i 12, bif ((2 : Int) * (siV_d s x)).toNat.beq ((13 : Nat)) then IntKind.u8.wrap (siV_c s x) else sixA (sixL s) x.i 13, bif ((2 : Int) * (siV_d s x)).toNat.beq ((14 : Nat)) then IntKind.u8.wrap (siV_c s x) else sixA (sixL s) x.i 14, bif ((2 : Int) * (siV_d s x)).toNat.beq ((15 : Nat)) then IntKind.u8.wrap (siV_c s x) else sixA (sixL s) x.i 15].length ∧ in64 ((↑x.i : Int) + (1 : Int)) ∧ ∃ (x' : (siI s).σ), (x'.i ≤ sixT s ∧ sixOk (sixL s) x'.i = true) ∧ sixT s - x'.i < sixT s - x.i ∧ true = true ∧ (↑x.i : Int) + (1 : Int) = (↑x'.i : Int) ∧ XV.ptr 0 0 0 0 = XV.ptr 0 0 0 0 ∧ false = false ∧ (siV_i s) ∧ (siV_j s) ∧ XV.ptr 1 0 0 0 = XV.ptr 1 0 0 0 ∧ (siV_m s) ∧ (↑(sixT s) : Int) = (↑(sixT s) : Int) ∧ siV_f ∧ (siV_a s x x') ∧ True) ∧ (decide ((↑x.i : Int) ≥ (↑(sixL s).l.length : Int)) = false → in64 ((2 : Int) * (↑x.i : Int)) ∧ in64 ((2 : Int) * (↑x.i : Int)) ∧ in64 ((2 : Int) * (↑x.i : Int) + (1 : Int)) ∧ (0 : Int) ≤ (2 : Int) * (↑x.i : Int) ∧ (2 : Int) * (↑x.i : Int) < (↑(16 : Nat) : Int) ∧ ((2 : Int) * (↑x.i : Int)).toNat < [sixA (sixL s) x.i 0, sixA (sixL s) x.i 1, sixA (sixL s) x.i 2, sixA (sixL s) x.i 3, sixA (sixL s) x.i 4, sixA (sixL s) x.i 5, sixA (sixL s) x.i 6, sixA (sixL s) x.i 7, sixA (sixL s) x.i 8, sixA (sixL s) x.i 9, sixA (sixL s) x.i 10, sixA (sixL s) x.i 11, sixA (sixL s) x.i 12, sixA (sixL s) x.i 13, sixA (sixL s) x.i 14, sixA (sixL s) x.i 15].length ∧ (0 : Int) ≤ (2 : Int) * (↑x.i : Int) + (1 : Int) ∧ (2 : Int) * (↑x.i : Int) + (1 : Int) < (↑(16 : Nat) : Int) ∧ ((2 : Int) * (↑x.i : Int) + (1 : Int)).toNat < [bif ((2 : Int) * (↑x.i : Int)).toNat.beq 0 then IntKind.u8.wrap (siV_c s x) else sixA (sixL s) x.i 0, bif ((2 : Int) * (↑x.i : Int)).toNat.beq ((1 : Nat)) then IntKind.u8.wrap (siV_c s x) else sixA (sixL s) x.i 1, bif ((2 : Int) * (↑x.i : Int)).toNat.beq ((2 : Nat)) then IntKind.u8.wrap (siV_c s x) else sixA (sixL s) x.i 2, bif ((2 : Int) * (↑x.i : Int)).toNat.beq ((3 : Nat)) then IntKind.u8.wrap (siV_c s x) else sixA (sixL s) x.i 3, bif ((2 : Int) * (↑x.i : Int)).toNat.beq ((4 : Nat)) then IntKind.u8.wrap (siV_c s x) else sixA (sixL s) x.i 4, bif ((2 : Int) * (↑x.i : Int)).toNat.beq ((5 : Nat)) then IntKind.u8.wrap (siV_c s x) else sixA (sixL s) x.i 5, bif ((2 : Int) * (↑x.i : Int)).toNat.beq ((6 : Nat)) then IntKind.u8.wrap (siV_c s x) else sixA (sixL s) x.i 6, bif ((2 : Int) * (↑x.i : Int)).toNat.beq ((7 : Nat)) then IntKind.u8.wrap (siV_c s x) else sixA (sixL s) x.i 7, bif ((2 : Int) * (↑x.i : Int)).toNat.beq ((8 : Nat)) then IntKind.u8.wrap (siV_c s x) else sixA (sixL s) x.i 8, bif ((2 : Int) * (↑x.i : Int)).toNat.beq ((9 : Nat)) then IntKind.u8.wrap (siV_c s x) else sixA (sixL s) x.i 9, bif ((2 : Int) * (↑x.i : Int)).toNat.beq ((10 : Nat)) then IntKind.u8.wrap (siV_c s x) else sixA (sixL s) x.i 10, bif ((2 : Int) * (↑x.i : Int)).toNat.beq ((11 : Nat)) then IntKind.u8.wrap (siV_c s x) else sixA (sixL s) x.i 11, bif ((2 : Int) * (↑x.i : Int)).toNat.beq ((12 : Nat)) then IntKind.u8.wrap (siV_c s x) else sixA (sixL s) x.i 12, bif ((2 : Int) * (↑x.i : Int)).toNat.beq ((13 : Nat)) then IntKind.u8.wrap (siV_c s x) else sixA (sixL s) x.i 13, bif ((2 : Int) * (↑x.i : Int)).toNat.beq ((14 : Nat)) then IntKind.u8.wrap (siV_c s x) else sixA (sixL s) x.i 14, bif ((2 : Int) * (↑x.i : Int)).toNat.beq ((15 : Nat)) then IntKind.u8.wrap (siV_c s x) else sixA (sixL s) x.i 15].length ∧ in64 ((↑x.i : Int) + (1 : Int)) ∧ ∃ (x' : (siI s).σ), (x'.i ≤ sixT s ∧ sixOk (sixL s) x'.i = true) ∧ sixT s - x'.i < sixT s - x.i ∧ true = true ∧ (↑x.i : Int) + (1 : Int) = (↑x'.i : Int) ∧ XV.ptr 0 0 0 0 = XV.ptr 0 0 0 0 ∧ false = false ∧ (siV_i s) ∧ (siV_j s) ∧ XV.ptr 1 0 0 0 = XV.ptr 1 0 0 0 ∧ (siV_m s) ∧ (↑(sixT s) : Int) = (↑(sixT s) : Int) ∧ siV_f ∧ (siV_b s x x') ∧ True)) ∧ (siV_o s x) ∧ (siV_p s x) ∧ True) ∧ (siV_g s x)) ∧ ((!decide ((siV_h s).snd.fst = ⟨#[]⟩)) = false → (in64 ((↑(0 : Nat) : Int) + (↑(0 : Nat) : Int)) ∧ ((decide ((↑(0 : Nat) : Int) + (↑(0 : Nat) : Int) > (8 : Int)) || !(siV_h s).snd.snd && (↑(0 : Nat) : Int) != (8 : Int)) = true → (siV_e s) ∧ false = (six s).snd ∧ True) ∧ ((decide ((↑(0 : Nat) : Int) + (↑(0 : Nat) : Int) > (8 : Int)) || !(siV_h s).snd.snd && (↑(0 : Nat) : Int) != (8 : Int)) = false → ∃ (x : (siA s).σ), (sixT s ≤ (8 : Nat) ∧ (siV_s s)) ∧ true = true ∧ XV.ptr 0 0 0 0 = XV.ptr 0 0 0 0 ∧ false = false ∧ ((XV.fz 0 1 fun (x : Nat) => [XT (⟨#[]⟩)]) = XV.fz (sixL s).l.length 1 fun (i : Nat) => [XT ((sixL s).l.getD i ⟨#[]⟩)]) ∧ ((XV.fz 0 1 fun (x : Nat) => [XT (⟨#[]⟩)]) = XV.fz (sixL s).r.length 1 fun (i : Nat) => [XT ((sixL s).r.getD i ⟨#[]⟩)]) ∧ siV_l ∧ True)) ∧ ∀ (x : UX), sixT s ≤ (8 : Nat) ∧ (siV_s s) → (↑(sixL s).l.length : Int) = (↑(sixL s).l.length : Int) ∧ (↑(sixL s).l.length : Int) = (↑(sixL s).l.length : Int) ∧ ((sixL s).l.length + (sixL s).r.length) * (16 : Nat) ≤ (140737488355328 : Nat) ∧ (sixL s).l.length + (sixL s).r.length ≤ (140737488355328 : Nat) ∧ (∃ (x : (siI s).σ), (x.i ≤ sixT s ∧ sixOk (sixL s) x.i = true) ∧ true = true ∧ (0 : Int) = (↑x.i : Int) ∧ XV.ptr 0 0 0 0 = XV.ptr 0 0 0 0 ∧ false = false ∧ (siV_i s) ∧ (siV_j s) ∧ XV.ptr 1 0 0 0 = XV.ptr 1 0 0 0 ∧ (siV_n s) ∧ (↑((sixL s).l.length + (sixL s).r.length) : Int) = (↑(sixT s) : Int) ∧ siV_f ∧ (siV_k s x) ∧ True) ∧ ∀ (x : IXAd), x.i ≤ sixT s ∧ sixOk (sixL s) x.i = true → (decide ((↑x.i : Int) < (↑(sixT s) : Int)) = true → (0 : Int) ≤ (↑x.i : Int) ∧ (↑x.i : Int) < (↑((sixL s).l.length + (sixL s).r.length) : Int) ∧ (sixQ (sixL s) (↑x.i : Int).toNat).size ≤ (1000000 : Nat) ∧ (16 : Int) = (16 : Int) ∧ ((pu16 (sixQ (sixL s) (↑x.i : Int).toNat)).fst = (0 : Nat) → (decide ((↑x.i : Int) ≥ (↑(sixL s).l.length : Int)) = true → in64 ((8 : Int) - (↑(sixL s).l.length : Int)) ∧ in64 ((8 : Int) - (↑(sixL s).l.length : Int) - (↑(sixL s).r.length : Int)) ∧ in64 (siV_d s x) ∧ in64 ((2 : Int) * (siV_d s x)) ∧ in64 ((2 : Int) * (siV_d s x)) ∧ in64 ((2 : Int) * (siV_d s x) + (1 : Int)) ∧ (0 : Int) ≤ (2 : Int) * (siV_d s x) ∧ (2 : Int) * (siV_d s x) < (↑(16 : Nat) : Int) ∧ ((2 : Int) * (siV_d s x)).toNat < [sixA (sixL s) x.i 0, sixA (sixL s) x.i 1, sixA (sixL s) x.i 2, sixA (sixL s) x.i 3, sixA (sixL s) x.i 4, sixA (sixL s) x.i 5, sixA (sixL s) x.i 6, sixA (sixL s) x.i 7, sixA (sixL s) x.i 8, sixA (sixL s) x.i 9, sixA (sixL s) x.i 10, sixA (sixL s) x.i 11, sixA (sixL s) x.i 12, sixA (sixL s) x.i 13, sixA (sixL s) x.i 14, sixA (sixL s) x.i 15].length ∧ (0 : Int) ≤ (2 : Int) * (siV_d s x) + (1 : Int) ∧ (2 : Int) * (siV_d s x) + (1 : Int) < (↑(16 : Nat) : Int) ∧ ((2 : Int) * (siV_d s x) + (1 : Int)).toNat < [bif ((2 : Int) * (siV_d s x)).toNat.beq 0 then IntKind.u8.wrap (siV_c s x) else sixA (sixL s) x.i 0, bif ((2 : Int) * (siV_d s x)).toNat.beq ((1 : Nat)) then IntKind.u8.wrap (siV_c s x) else sixA (sixL s) x.i 1, bif ((2 : Int) * (siV_d s x)).toNat.beq ((2 : Nat)) then IntKind.u8.wrap (siV_c s x) else sixA (sixL s) x.i 2, bif ((2 : Int) * (siV_d s x)).toNat.beq ((3 : Nat)) then IntKind.u8.wrap (siV_c s x) else sixA (sixL s) x.i 3, bif ((2 : Int) * (siV_d s x)).toNat.beq ((4 : Nat)) then IntKind.u8.wrap (siV_c s x) else sixA (sixL s) x.i 4, bif ((2 : Int) * (siV_d s x)).toNat.beq ((5 : Nat)) then IntKind.u8.wrap (siV_c s x) else sixA (sixL s) x.i 5, bif ((2 : Int) * (siV_d s x)).toNat.beq ((6 : Nat)) then IntKind.u8.wrap (siV_c s x) else sixA (sixL s) x.i 6, bif ((2 : Int) * (siV_d s x)).toNat.beq ((7 : Nat)) then IntKind.u8.wrap (siV_c s x) else sixA (sixL s) x.i 7, bif ((2 : Int) * (siV_d s x)).toNat.beq ((8 : Nat)) then IntKind.u8.wrap (siV_c s x) else sixA (sixL s) x.i 8, bif ((2 : Int) * (siV_d s x)).toNat.beq ((9 : Nat)) then IntKind.u8.wrap (siV_c s x) else sixA (sixL s) x.i 9, bif ((2 : Int) * (siV_d s x)).toNat.beq ((10 : Nat)) then IntKind.u8.wrap (siV_c s x) else sixA (sixL s) x.i 10, bif ((2 : Int) * (siV_d s x)).toNat.beq ((11 : Nat)) then IntKind.u8.wrap (siV_c s x) else sixA (sixL s) x.i 11, bif ((2 : Int) * (siV_d s x)).toNat.beq ((12 : Nat)) then IntKind.u8.wrap (siV_c s x) else sixA (sixL s) x.i 12, bif ((2 : Int) * (siV_d s x)).toNat.beq ((13 : Nat)) then IntKind.u8.wrap (siV_c s x) else sixA (sixL s) x.i 13, bif ((2 : Int) * (siV_d s x)).toNat.beq ((14 : Nat)) then IntKind.u8.wrap (siV_c s x) else sixA (sixL s) x.i 14, bif ((2 : Int) * (siV_d s x)).toNat.beq ((15 : Nat)) then IntKind.u8.wrap (siV_c s x) else sixA (sixL s) x.i 15].length ∧ in64 ((↑x.i : Int) + (1 : Int)) ∧ ∃ (x' : (siI s).σ), (x'.i ≤ sixT s ∧ sixOk (sixL s) x'.i = true) ∧ sixT s - x'.i < sixT s - x.i ∧ true = true ∧ (↑x.i : Int) + (1 : Int) = (↑x'.i : Int) ∧ XV.ptr 0 0 0 0 = XV.ptr 0 0 0 0 ∧ false = false ∧ (siV_i s) ∧ (siV_j s) ∧ XV.ptr 1 0 0 0 = XV.ptr 1 0 0 0 ∧ (siV_m s) ∧ (↑(sixT s) : Int) = (↑(sixT s) : Int) ∧ siV_f ∧ (siV_a s x x') ∧ True) ∧ (decide ((↑x.i : Int) ≥ (↑(sixL s).l.length : Int)) = false → in64 ((2 : Int) * (↑x.i : Int)) ∧ in64 ((2 : Int) * (↑x.i : Int)) ∧ in64 ((2 : Int) * (↑x.i : Int) + (1 : Int)) ∧ (0 : Int) ≤ (2 : Int) * (↑x.i : Int) ∧ (2 : Int) * (↑x.i : Int) < (↑(16 : Nat) : Int) ∧ ((2 : Int) * (↑x.i : Int)).toNat < [sixA (sixL s) x.i 0, sixA (sixL s) x.i 1, sixA (sixL s) x.i 2, sixA (sixL s) x.i 3, sixA (sixL s) x.i 4, sixA (sixL s) x.i 5, sixA (sixL s) x.i 6, sixA (sixL s) x.i 7, sixA (sixL s) x.i 8, sixA (sixL s) x.i 9, sixA (sixL s) x.i 10, sixA (sixL s) x.i 11, sixA (sixL s) x.i 12, sixA (sixL s) x.i 13, sixA (sixL s) x.i 14, sixA (sixL s) x.i 15].length ∧ (0 : Int) ≤ (2 : Int) * (↑x.i : Int) + (1 : Int) ∧ (2 : Int) * (↑x.i : Int) + (1 : Int) < (↑(16 : Nat) : Int) ∧ ((2 : Int) * (↑x.i : Int) + (1 : Int)).toNat < [bif ((2 : Int) * (↑x.i : Int)).toNat.beq 0 then IntKind.u8.wrap (siV_c s x) else sixA (sixL s) x.i 0, bif ((2 : Int) * (↑x.i : Int)).toNat.beq ((1 : Nat)) then IntKind.u8.wrap (siV_c s x) else sixA (sixL s) x.i 1, bif ((2 : Int) * (↑x.i : Int)).toNat.beq ((2 : Nat)) then IntKind.u8.wrap (siV_c s x) else sixA (sixL s) x.i 2, bif ((2 : Int) * (↑x.i : Int)).toNat.beq ((3 : Nat)) then IntKind.u8.wrap (siV_c s x) else sixA (sixL s) x.i 3, bif ((2 : Int) * (↑x.i : Int)).toNat.beq ((4 : Nat)) then IntKind.u8.wrap (siV_c s x) else sixA (sixL s) x.i 4, bif ((2 : Int) * (↑x.i : Int)).toNat.beq ((5 : Nat)) then IntKind.u8.wrap (siV_c s x) else sixA (sixL s) x.i 5, bif ((2 : Int) * (↑x.i : Int)).toNat.beq ((6 : Nat)) then IntKind.u8.wrap (siV_c s x) else sixA (sixL s) x.i 6, bif ((2 : Int) * (↑x.i : Int)).toNat.beq ((7 : Nat)) then IntKind.u8.wrap (siV_c s x) else sixA (sixL s) x.i 7, bif ((2 : Int) * (↑x.i : Int)).toNat.beq ((8 : Nat)) then IntKind.u8.wrap (siV_c s x) else sixA (sixL s) x.i 8, bif ((2 : Int) * (↑x.i : Int)).toNat.beq ((9 : Nat)) then IntKind.u8.wrap (siV_c s x) else sixA (sixL s) x.i 9, bif ((2 : Int) * (↑x.i : Int)).toNat.beq ((10 : Nat)) then IntKind.u8.wrap (siV_c s x) else sixA (sixL s) x.i 10, bif ((2 : Int) * (↑x.i : Int)).toNat.beq ((11 : Nat)) then IntKind.u8.wrap (siV_c s x) else sixA (sixL s) x.i 11, bif ((2 : Int) * (↑x.i : Int)).toNat.beq ((12 : Nat)) then IntKind.u8.wrap (siV_c s x) else sixA (sixL s) x.i 12, bif ((2 : Int) * (↑x.i : Int)).toNat.beq ((13 : Nat)) then IntKind.u8.wrap (siV_c s x) else sixA (sixL s) x.i 13, bif ((2 : Int) * (↑x.i : Int)).toNat.beq ((14 : Nat)) then IntKind.u8.wrap (siV_c s x) else sixA (sixL s) x.i 14, bif ((2 : Int) * (↑x.i : Int)).toNat.beq ((15 : Nat)) then IntKind.u8.wrap (siV_c s x) else sixA (sixL s) x.i 15].length ∧ in64 ((↑x.i : Int) + (1 : Int)) ∧ ∃ (x' : (siI s).σ), (x'.i ≤ sixT s ∧ sixOk (sixL s) x'.i = true) ∧ sixT s - x'.i < sixT s - x.i ∧ true = true ∧ (↑x.i : Int) + (1 : Int) = (↑x'.i : Int) ∧ XV.ptr 0 0 0 0 = XV.ptr 0 0 0 0 ∧ false = false ∧ (siV_i s) ∧ (siV_j s) ∧ XV.ptr 1 0 0 0 = XV.ptr 1 0 0 0 ∧ (siV_m s) ∧ (↑(sixT s) : Int) = (↑(sixT s) : Int) ∧ siV_f ∧ (siV_b s x x') ∧ True)) ∧ (siV_o s x) ∧ (siV_p s x) ∧ True) ∧ (siV_g s x)))
theorem siV_eq (s : ByteArray) : siV s = (funC cxgAd Tryz.f34 (mkSc (siE s) (bodyOf Tryz.f34)) [XT s] (.tup [adr (six s).1, XB (six s).2])) := by kernel_rfl
theorem cutB_size2 (s sep : ByteArray) : (cutB s sep).1.size ≤ s.size ∧ (cutB s sep).2.1.size ≤ s.size := by
 constructor
 ·show (mk8 (Lib.cut s.data.toList sep.data.toList).1).size ≤ _
  rw [mk8_size, size_data s]
  unfold Lib.cut
  split
  ·exact (List.take_sublist _ _).length_le
  ·exact Nat.le_refl _
 ·show (mk8 (Lib.cut s.data.toList sep.data.toList).2.1).size ≤ _
  rw [mk8_size, size_data s]
  unfold Lib.cut
  split
  ·exact (List.drop_sublist _ _).length_le
  ·exact Nat.zero_le _
theorem side_size (s : ByteArray) (i : Nat) : (pcs (side s) i).size ≤ s.size := by
 unfold side
 split
 ·unfold pcs; rw [List.getD_nil]; exact Nat.zero_le _
 ·exact pieces_size s 58 i
theorem sixQ_size (s : ByteArray) (i : Nat) : (sixQ (sixL s) i).size ≤ s.size := by
 have h := cutB_size2 s ⟨#[58, 58]⟩
 unfold sixQ
 split
 ·exact Nat.le_trans (side_size _ _) h.1
 ·exact Nat.le_trans (side_size _ _) h.2
theorem sixA_succ (p : LR) (i m k : Nat) (h : m = sixP p i) : (bif (2 * (m : Int) + 1).toNat.beq k then IntKind.u8.wrap ((pu16 (sixQ p i)).2 : Int) else bif (2 * (m : Int)).toNat.beq k then IntKind.u8.wrap (((pu16 (sixQ p i)).2 : Int).fdiv (2 ^ 8)) else sixA p i k) = sixA p (i + 1) k := by
 subst h
 show _ = if k = 2 * sixP p i + 1 then _ else if k = 2 * sixP p i then _ else sixA p i k
 rw [beqN, beqN, show (2 * (sixP p i : Int) + 1).toNat = 2 * sixP p i + 1 by omega, show (2 * (sixP p i : Int)).toNat = 2 * sixP p i by omega]
 by_cases h1 : 2 * sixP p i + 1 = k
 ·rw [decide_eq_true h1, cond_true, if_pos h1.symm]
 ·rw [decide_eq_false h1, cond_false, if_neg (Ne.symm h1)]
  by_cases h2 : 2 * sixP p i = k
  ·rw [decide_eq_true h2, cond_true, if_pos h2.symm]
  ·rw [decide_eq_false h2, cond_false, if_neg (Ne.symm h2)]
theorem sixOk_le (p : LR) : ∀ m, sixOk p m = true → ∀ k, k < m → (pu16 (sixQ p k)).1 = 0
 | m + 1, h, k, hk => by
  unfold sixOk at h
  simp only [Bool.and_eq_true, decide_eq_true_eq] at h
  by_cases e : k = m
  ·rw [e]; exact h.2
  ·exact sixOk_le p m h.1 k (by omega)
theorem six_fz (s : ByteArray) : (XV.fz ((sixL s).l.length + (sixL s).r.length) 1 fun j => [XT (bif j.blt (sixL s).l.length then (sixL s).l.getD j ⟨#[]⟩ else (sixL s).r.getD (j - (sixL s).l.length) ⟨#[]⟩)]) = XV.fz ((sixL s).l.length + (sixL s).r.length) 1 fun j => [XT (sixQ (sixL s) j)] := by
 congr 1
 funext j
 unfold sixQ
 rw [bltN]
 by_cases h : j < (sixL s).l.length
 ·rw [decide_eq_true h, cond_true, if_pos h]; rfl
 ·rw [decide_eq_false h, cond_false, if_neg h]; rfl
theorem sixA_at (p : LR) (i k : Nat) (a : Int) (h : a = (sixP p i : Int)) : (bif (2 * a + 1).toNat.beq k then IntKind.u8.wrap ((pu16 (sixQ p i)).2 : Int) else bif (2 * a).toNat.beq k then IntKind.u8.wrap (((pu16 (sixQ p i)).2 : Int).fdiv (2 ^ 8)) else sixA p i k) = sixA p (i + 1) k := by
 subst h
 exact sixA_succ p i (sixP p i) k rfl
theorem side_ne {s : ByteArray} (h : (!decide (s = ⟨#[]⟩)) = true) : side s = splitS s ⟨#[58]⟩ := if_neg (by simpa using h)
theorem side_eq {s : ByteArray} (h : (!decide (s = ⟨#[]⟩)) = false) : side s = [] := if_pos (by simpa using h)
theorem sixL_of {s : ByteArray} {l r : List ByteArray} (hl : side (cutB s ⟨#[58, 58]⟩).1 = l) (hr : side (cutB s ⟨#[58, 58]⟩).2.1 = r) : sixL s = ⟨l, r⟩ := by unfold sixL; rw [hl, hr]
theorem six_bad {s : ByteArray} (h : ¬ ((sixL s).l.length + (sixL s).r.length ≤ 8 ∧ ((cutB s ⟨#[58, 58]⟩).2.2 = true ∨ (sixL s).l.length = 8))) : six s = (zeroA, false) := if_neg fun e => h e.1
theorem six_dec {s : ByteArray} {a b : Int} (ha : a = ((sixL s).l.length : Int)) (hb : b = ((sixL s).r.length : Int)) (h : (decide (a + b > 8) || !(cutB s ⟨#[58, 58]⟩).2.2 && a != 8) = true) : six s = (zeroA, false) := by
 subst ha hb
 refine six_bad fun e => ?_
 rcases e.2 with h2 | h2
 ·rw [h2, decide_eq_false (by omega)] at h; exact absurd h (by simp)
 ·rw [h2, decide_eq_false (by omega)] at h; exact absurd h (by simp)
theorem six_dec' {s : ByteArray} {a b : Int} (ha : a = ((sixL s).l.length : Int)) (hb : b = ((sixL s).r.length : Int)) (h : (decide (a + b > 8) || !(cutB s ⟨#[58, 58]⟩).2.2 && a != 8) = false) : sixT s ≤ 8 ∧ ((cutB s ⟨#[58, 58]⟩).2.2 = true ∨ (sixL s).l.length = 8) := by
 subst ha hb
 rw [Bool.or_eq_false_iff] at h
 refine ⟨?_, ?_⟩
 ·have := of_decide_eq_false h.1
  unfold sixT; omega
 ·rcases e : (cutB s ⟨#[58, 58]⟩).2.2 with _ | _
  ·rw [e] at h
   have h := h.2
   simp at h
   exact .inr (by omega)
  ·exact .inl rfl
theorem si_v (s : ByteArray) (hs : s.size ≤ 1000000) : siV s := by
 unfold siV siV_s siV_r siV_q siV_p siV_o siV_n siV_m siV_l siV_k siV_j siV_i siV_h siV_g siV_f siV_e siV_a siV_d siV_b siV_c
 obtain ⟨c1, c2⟩ := cutB_size2 s ⟨#[58, 58]⟩
 have l1 := splitS_len (cutB s ⟨#[58, 58]⟩).1 58
 have l2 := splitS_len (cutB s ⟨#[58, 58]⟩).2.1 58
 have z : ∀ (h : six s = (zeroA, false)), (0 = (six s).1 0 ∧ 0 = (six s).1 1 ∧ 0 = (six s).1 2 ∧ 0 = (six s).1 3 ∧ 0 = (six s).1 4 ∧ 0 = (six s).1 5 ∧ 0 = (six s).1 6 ∧ 0 = (six s).1 7 ∧ 0 = (six s).1 8 ∧ 0 = (six s).1 9 ∧ 0 = (six s).1 10 ∧ 0 = (six s).1 11 ∧ 0 = (six s).1 12 ∧ 0 = (six s).1 13 ∧ 0 = (six s).1 14 ∧ 0 = (six s).1 15 ∧ True) ∧ false = (six s).2 ∧ True := by
  intro h
  rw [h]
  exact ⟨⟨rfl, rfl, rfl, rfl, rfl, rfl, rfl, rfl, rfl, rfl, rfl, rfl, rfl, rfl, rfl, rfl, trivial⟩, rfl, trivial⟩
 refine ⟨by omega, fun h1 => ⟨by omega, Nat.le_refl _, fun h2 => ⟨by omega, Nat.le_refl _, ⟨by unfold in64; omega, fun h3 => ?a1, fun h3 => ?a2⟩, ?a3⟩, fun h2 => ⟨⟨by unfold in64; omega, fun h3 => ?b1, fun h3 => ?b2⟩, ?b3⟩⟩, fun h1 => ⟨fun h2 => ⟨by omega, Nat.le_refl _, ⟨by unfold in64; omega, fun h3 => ?c1, fun h3 => ?c2⟩, ?c3⟩, fun h2 => ⟨⟨by unfold in64; omega, fun h3 => ?d1, fun h3 => ?d2⟩, ?d3⟩⟩⟩
 case a1 => exact z (six_dec (by unfold sixL; rw [side_ne h1]) (by unfold sixL; rw [side_ne h2]) h3)
 case b1 => exact z (six_dec (by unfold sixL; rw [side_ne h1]) (by unfold sixL; rw [side_eq h2]; rfl) h3)
 case c1 => exact z (six_dec (by unfold sixL; rw [side_eq h1]; rfl) (by unfold sixL; rw [side_ne h2]) h3)
 case d1 => exact z (six_dec (by unfold sixL; rw [side_eq h1]; rfl) (by unfold sixL; rw [side_eq h2]; rfl) h3)
 case a2 =>
  have e := sixL_of (side_ne h1) (side_ne h2)
  refine ⟨⟨()⟩, six_dec' (by rw [e]) (by rw [e]) h3, ?_⟩
  and_intros <;> first | with_reducible rfl | trivial | (rw [e])
 case b2 =>
  have e := sixL_of (side_ne h1) (side_eq h2)
  refine ⟨⟨()⟩, six_dec' (by rw [e]) (by rw [e]; rfl) h3, ?_⟩
  and_intros <;> first | with_reducible rfl | trivial | (rw [e]; done) | (rw [e]; rfl)
 case c2 =>
  have e := sixL_of (side_eq h1) (side_ne h2)
  refine ⟨⟨()⟩, six_dec' (by rw [e]; rfl) (by rw [e]) h3, ?_⟩
  and_intros <;> first | with_reducible rfl | trivial | (rw [e]; done) | (rw [e]; rfl)
 case d2 =>
  have e := sixL_of (side_eq h1) (side_eq h2)
  refine ⟨⟨()⟩, six_dec' (by rw [e]; rfl) (by rw [e]; rfl) h3, ?_⟩
  and_intros <;> first | with_reducible rfl | trivial | (rw [e]; done) | (rw [e]; rfl)
 all_goals
  clear h1 h2
  rintro - ⟨hT, hF⟩
  have hT : (sixL s).l.length + (sixL s).r.length ≤ 8 := hT
  refine ⟨rfl, rfl, by omega, by omega, ⟨⟨0⟩, ⟨Nat.zero_le _, rfl⟩, rfl, rfl, rfl, rfl, rfl, rfl, rfl, six_fz s, rfl, ?_, ?_, trivial⟩, ?_⟩
  ·and_intros <;> first | rfl | trivial
  ·and_intros <;> first | rfl | trivial
  rintro ⟨i⟩ ⟨hi, hok⟩
  have hi : i ≤ (sixL s).l.length + (sixL s).r.length := hi
  have hok : sixOk (sixL s) i = true := hok
  have hj : (IXAd.mk i).i = i := rfl
  have hsz := sixQ_size s i
  refine ⟨fun h1 => ?_, fun h1 => ?_⟩
  ·have hlt : i < (sixL s).l.length + (sixL s).r.length := by
    have : (i : Int) < (((sixL s).l.length + (sixL s).r.length : Nat) : Int) := of_decide_eq_true h1
    omega
   have stop : (pu16 (sixQ (sixL s) i)).1 ≠ 0 → six s = (zeroA, false) := fun h => if_neg fun e => h (sixOk_le _ _ e.2 i hlt)
   refine ⟨by omega, by dsimp only; omega, by show (sixQ (sixL s) i).size ≤ _; omega, rfl, fun h2 => ?_, fun h2 => ⟨by show (sixQ (sixL s) i).size ≤ _; omega, rfl, .inl rfl, fun _ => ?_, trivial⟩, fun h2 => ⟨by show (sixQ (sixL s) i).size ≤ _; omega, rfl, .inr rfl, fun _ => ?_, trivial⟩, trivial⟩
   ·have ok : sixOk (sixL s) (i + 1) = true := by
     show (sixOk (sixL s) i && decide ((pu16 (sixQ (sixL s) i)).1 = 0)) = true
     have h2' : (pu16 (sixQ (sixL s) i)).1 = 0 := h2
     rw [hok, h2']
     rfl
    by_cases hl : i < (sixL s).l.length
    ·have hp : sixP (sixL s) i = i := if_pos hl
     have hp' : (i : Int) = (sixP (sixL s) i : Int) := by rw [hp]
     refine ⟨fun h3 => absurd (of_decide_eq_true h3) (by omega), fun h3 => ⟨by unfold in64; omega, by unfold in64; omega, by unfold in64; omega, by omega, by omega, ?_, by omega, by omega, ?_, by unfold in64; omega, ⟨i + 1⟩, ⟨hlt, ok⟩, by show (sixL s).l.length + (sixL s).r.length - (i + 1) < (sixL s).l.length + (sixL s).r.length - i; omega, rfl, rfl, rfl, rfl, rfl, rfl, rfl, rfl, rfl, ?_, ?_, trivial⟩⟩
     ·show _ < 16
      omega
     ·show _ < 16
      omega
     ·and_intros <;> first | rfl | trivial
     ·refine ⟨⟨rfl, rfl⟩, sixA_at _ i 0 _ hp', sixA_at _ i 1 _ hp', sixA_at _ i 2 _ hp', sixA_at _ i 3 _ hp', sixA_at _ i 4 _ hp', sixA_at _ i 5 _ hp', sixA_at _ i 6 _ hp', sixA_at _ i 7 _ hp', sixA_at _ i 8 _ hp', sixA_at _ i 9 _ hp', sixA_at _ i 10 _ hp', sixA_at _ i 11 _ hp', sixA_at _ i 12 _ hp', sixA_at _ i 13 _ hp', sixA_at _ i 14 _ hp', sixA_at _ i 15 _ hp', trivial⟩
    ·have hp : sixP (sixL s) i = i + (8 - (sixL s).l.length - (sixL s).r.length) := if_neg hl
     have hp' : (i : Int) + (8 - ((sixL s).l.length : Int) - ((sixL s).r.length : Int)) = (sixP (sixL s) i : Int) := by rw [hp]; omega
     refine ⟨fun h3 => ⟨by unfold in64; omega, by unfold in64; omega, by unfold in64; omega, by unfold in64; omega, by unfold in64; omega, by unfold in64; omega, by omega, by omega, ?_, by omega, by omega, ?_, by unfold in64; omega, ⟨i + 1⟩, ⟨hlt, ok⟩, by show (sixL s).l.length + (sixL s).r.length - (i + 1) < (sixL s).l.length + (sixL s).r.length - i; omega, rfl, rfl, rfl, rfl, rfl, rfl, rfl, rfl, rfl, ?_, ?_, trivial⟩, fun h3 => absurd (of_decide_eq_false h3) (by omega)⟩
     ·show _ < 16
      omega
     ·show _ < 16
      omega
     ·and_intros <;> first | rfl | trivial
     ·refine ⟨⟨rfl, rfl⟩, sixA_at _ i 0 _ hp', sixA_at _ i 1 _ hp', sixA_at _ i 2 _ hp', sixA_at _ i 3 _ hp', sixA_at _ i 4 _ hp', sixA_at _ i 5 _ hp', sixA_at _ i 6 _ hp', sixA_at _ i 7 _ hp', sixA_at _ i 8 _ hp', sixA_at _ i 9 _ hp', sixA_at _ i 10 _ hp', sixA_at _ i 11 _ hp', sixA_at _ i 12 _ hp', sixA_at _ i 13 _ hp', sixA_at _ i 14 _ hp', sixA_at _ i 15 _ hp', trivial⟩
   ·have h2' : (pu16 (sixQ (sixL s) i)).1 = 1 := h2
    exact z (stop (by omega))
   ·have h2' : (pu16 (sixQ (sixL s) i)).1 = 2 := h2
    exact z (stop (by omega))
  ·have hge : i = (sixL s).l.length + (sixL s).r.length := by
    have : ¬ (i : Int) < (((sixL s).l.length + (sixL s).r.length : Nat) : Int) := of_decide_eq_false h1
    omega
   have e : six s = (sixA (sixL s) i, true) := by
    rw [hge]
    exact if_pos ⟨⟨hT, hF⟩, by rw [← hge]; exact hok⟩
   rw [e]
   exact ⟨⟨rfl, rfl, rfl, rfl, rfl, rfl, rfl, rfl, rfl, rfl, rfl, rfl, rfl, rfl, rfl, rfl, trivial⟩, rfl, trivial⟩
theorem si_ok : CTok Tryz.prog 34 (C1 dStr (fun s => [s.size ≤ 1000000]) fun s => .tup [adr (six s).1, XB (six s).2]) := C1_ok cxgAd_ok Tryz.func34 rfl (by decide) dStr_eq.ok (by kernel_rfl) (fun _ => rfl) fun s hc => exv (siV_eq s) (si_v s (hc _ (by simp)))
end Go.Proofs.YtkjcoehblekpdaaGreatDoorAv
namespace Go.Proofs.YtkjcoehblekpdaaGreatDoorAv
open Go Go.RowKit
def bytesO : List XV → Option (List Int)
 | [] => some []
 | x :: l => match byteO x with
  | some b => match bytesO l with
   | some r => some (b :: r)
   | none => none
  | none => none
theorem bytesO_eq : ∀ (cs : List XV) (l : List Int), bytesO cs = some l → cs = l.map X8
 | [], l, h => by obtain rfl := (Option.some.inj h).symm; rfl
 | x :: cs, l, h => by
  unfold bytesO at h
  split at h
  ·rename_i b hb
   split at h
   ·rename_i r hr
    obtain rfl := Option.some.inj h
    rw [byteO_eq hb, bytesO_eq cs r hr]
    rfl
   ·cases h
  ·cases h
def dAL : Dc (Nat → Int) := ⟨fun x => match x with
 | .agg cs => match Nat.beq (xlen cs) 16 with
  | true => match bytesO cs with
   | some l => some ([], fun i => l.getD i 0)
   | none => none
  | false => none
 | _ => none, adr⟩
theorem dAL_eq : DcEq dAL := fun x cs a h _ => by
 simp only [dAL] at h
 split at h
 ·rename_i l
  split at h
  ·rename_i hl
   split at h
   ·rename_i bs hbs
    simp only [Option.some.injEq, Prod.mk.injEq] at h
    obtain ⟨-, rfl⟩ := h
    simp only [beqN, decide_eq_true_eq] at hl
    rw [xlen_eq] at hl
    obtain rfl := bytesO_eq l bs hbs
    rw [List.length_map] at hl
    have e : XV.agg (bs.map X8) = adr fun i => bs.getD i 0 := by
     rcases bs with _ | ⟨a0, _ | ⟨a1, _ | ⟨a2, _ | ⟨a3, _ | ⟨a4, _ | ⟨a5, _ | ⟨a6, _ | ⟨a7, _ | ⟨a8, _ | ⟨a9, _ | ⟨a10, _ | ⟨a11, _ | ⟨a12, _ | ⟨a13, _ | ⟨a14, _ | ⟨a15, _ | ⟨a16, l⟩⟩⟩⟩⟩⟩⟩⟩⟩⟩⟩⟩⟩⟩⟩⟩⟩
     case cons.cons.cons.cons.cons.cons.cons.cons.cons.cons.cons.cons.cons.cons.cons.cons.nil => rfl
     all_goals (exfalso; simp at hl; try omega)
    refine ⟨?_, rfl, ?_⟩
    ·show (XV.agg (bs.map X8)).pd = true
     rw [e]
     rfl
    ·show toAV (XV.agg (bs.map X8)) = toAV (adr fun i => bs.getD i 0)
     rw [e]
   ·cases h
  ·cases h
 ·cases h
def gp (a : Nat → Int) (j : Nat) : Int := a (2 * j) * 256 + a (2 * j + 1)
def zrun (a : Nat → Int) : Nat → Nat → Nat
 | 0, _ => 0
 | f + 1, i => if i < 8 ∧ gp a i = 0 then zrun a f (i + 1) + 1 else 0
def best (a : Nat → Int) : Nat → Int × Int
 | 0 => (-1, 1)
 | i + 1 => if (best a i).2 < (zrun a 9 i : Int) then ((i : Int), (zrun a 9 i : Int)) else best a i
def prT (a : Nat → Int) (b r : Int) : Nat → ByteArray
 | 0 => ⟨#[]⟩
 | k + 1 => if b ≤ (k : Int) ∧ (k : Int) < b + r then (if (k : Int) = b then prT a b r k ++ ⟨#[58, 58]⟩ else prT a b r k) else (if prT a b r k ≠ ⟨#[]⟩ ∧ hasSufB (prT a b r k) ⟨#[58]⟩ = false then prT a b r k ++ ⟨#[58]⟩ else prT a b r k) ++ hexB (gp a k).toNat
def prF (a : Nat → Int) (j : Nat) : ByteArray := itoaB (a (12 + j))
def prn (a : Nat → Int) : ByteArray := if is4 a = true then joinB ((List.range 4).map (prF a)) ⟨#[46]⟩ else prT a (best a 8).1 (best a 8).2 8
def is4L : CT := C1 dAL (fun _ => []) fun g => XB (is4 g)
theorem is4L_ok : CTok Tryz.prog 19 is4L := C1_ok cx0_ok Tryz.func19 rfl (by decide) dAL_eq.ok (by kernel_rfl) (fun _ => rfl) fun g _ => exv (is4V_eq g) (is4_v g)
def cxp : Cx := { cx0 with C := [(19, is4L), (25, itoaC), (39, joinC), (40, hasSufC), (27, fmtC)] }
theorem cxp_ok : cxp.ok Tryz.prog := ((((cx0_ok.addC fm_ok).addC hasSuf_ok).addC join_ok).addC itoa_ok).addC is4L_ok
structure KX where
 k : Nat
def grp (a : Nat → Int) : XRow := .one 69 true [XI (gp a 0), XI (gp a 1), XI (gp a 2), XI (gp a 3), XI (gp a 4), XI (gp a 5), XI (gp a 6), XI (gp a 7)]
def prR (a : Nat → Int) : List (Nat × XRow) := [(0, .one 27 true (adr a).cells), (1, grp a)]
def prC (a : Nat → Int) : Inv where
 σ := UX
 S := fun x => ⟨[(1, .ptr 0 0 0 0), (2, XT ⟨#[]⟩), (6, .ptr 1 0 0 0)], prR a, 2, false, []⟩
 inv := fun x => True
 μ := fun x => 0
def prB (a : Nat → Int) : Inv where
 σ := UX
 S := fun x => ⟨[(1, .ptr 0 0 0 0), (2, XT ⟨#[]⟩), (3, .sl 1 1 0 4)], [(0, .one 27 true (adr a).cells), (1, .vec 9 true 4 1 fun j => [XT (prF a j)])], 2, false, []⟩
 inv := fun x => is4 a = true
 μ := fun x => 0
def prI (a : Nat → Int) : Inv where
 σ := IXAd
 S := fun x => ⟨[(1, .ptr 0 0 0 0), (2, XT ⟨#[]⟩), (6, .ptr 1 0 0 0), (8, XI (best a x.i).1), (9, XI (best a x.i).2), (50, XI x.i)], prR a, 2, false, []⟩
 inv := fun x => x.i ≤ 8
 μ := fun x => 8 - x.i
def prJ (a : Nat → Int) (x : IXAd) : Inv where
 σ := KX
 S := fun y => ⟨[(1, .ptr 0 0 0 0), (2, XT ⟨#[]⟩), (6, .ptr 1 0 0 0), (8, XI (best a x.i).1), (9, XI (best a x.i).2), (50, XI x.i), (10, XI x.i), (11, XI y.k)], prR a, 2, false, []⟩
 inv := fun y => x.i + y.k ≤ 8 ∧ ∀ j, j < y.k → gp a (x.i + j) = 0
 μ := fun y => 8 - y.k
def prK (a : Nat → Int) : Inv where
 σ := IXAd
 S := fun x => ⟨[(1, .ptr 0 0 0 0), (2, XT ⟨#[]⟩), (6, .ptr 1 0 0 0), (8, XI (best a 8).1), (9, XI (best a 8).2), (12, XT (prT a (best a 8).1 (best a 8).2 x.i)), (13, XI x.i)], prR a, 2, false, []⟩
 inv := fun x => x.i ≤ 8 ∧ ((x.i : Int) ≤ (best a 8).1 ∨ (best a 8).1 + (best a 8).2 ≤ (x.i : Int))
 μ := fun x => 8 - x.i
def prE (a : Nat → Int) : Env := { loops := [(4, prI a), (8, prK a)], loopsP := [(6, ⟨IXAd, prJ a⟩)], cuts := [(8, prB a), (15, prC a)], rolls := [(0, 5), (2, 9)], own := [(3, [(3, 9, 1)])], frz := [(8, [3])] }
def prV_a (a : Nat → Int) :=
  (((27 : TypeId) = (27 : TypeId) ∧ true = true) ∧ a (0 : Nat) = a (0 : Nat) ∧ a (1 : Nat) = a (1 : Nat) ∧ a (2 : Nat) = a (2 : Nat) ∧ a (3 : Nat) = a (3 : Nat) ∧ a (4 : Nat) = a (4 : Nat) ∧ a (5 : Nat) = a (5 : Nat) ∧ a (6 : Nat) = a (6 : Nat) ∧ a (7 : Nat) = a (7 : Nat) ∧ a (8 : Nat) = a (8 : Nat) ∧ a (9 : Nat) = a (9 : Nat) ∧ a (10 : Nat) = a (10 : Nat) ∧ a (11 : Nat) = a (11 : Nat) ∧ a (12 : Nat) = a (12 : Nat) ∧ a (13 : Nat) = a (13 : Nat) ∧ a (14 : Nat) = a (14 : Nat) ∧ a (15 : Nat) = a (15 : Nat) ∧ True)
def prV_b (a : Nat → Int) :=
  (((69 : TypeId) = (69 : TypeId) ∧ true = true) ∧ gp a (0 : Nat) = gp a (0 : Nat) ∧ gp a (1 : Nat) = gp a (1 : Nat) ∧ gp a (2 : Nat) = gp a (2 : Nat) ∧ gp a (3 : Nat) = gp a (3 : Nat) ∧ gp a (4 : Nat) = gp a (4 : Nat) ∧ gp a (5 : Nat) = gp a (5 : Nat) ∧ gp a (6 : Nat) = gp a (6 : Nat) ∧ gp a (7 : Nat) = gp a (7 : Nat) ∧ True)
def prV_c (a : Nat → Int) :=
  (IntKind.i64.wrap ([a (0 : Nat), a (1 : Nat), a (2 : Nat), a (3 : Nat), a (4 : Nat), a (5 : Nat), a (6 : Nat), a (7 : Nat), a (8 : Nat), a (9 : Nat), a (10 : Nat), a (11 : Nat), a (12 : Nat), a (13 : Nat), a (14 : Nat), a (15 : Nat)].getD ((0 : Nat)) (0 : Int) * (2 : Int) ^ (8 : Nat)))
def prV_d (a : Nat → Int) :=
  ([a (0 : Nat), a (1 : Nat), a (2 : Nat), a (3 : Nat), a (4 : Nat), a (5 : Nat), a (6 : Nat), a (7 : Nat), a (8 : Nat), a (9 : Nat), a (10 : Nat), a (11 : Nat), a (12 : Nat), a (13 : Nat), a (14 : Nat), a (15 : Nat)].getD ((1 : Nat)) (0 : Int))
def prV_e (a : Nat → Int) :=
  (IntKind.i64.wrap ([a (0 : Nat), a (1 : Nat), a (2 : Nat), a (3 : Nat), a (4 : Nat), a (5 : Nat), a (6 : Nat), a (7 : Nat), a (8 : Nat), a (9 : Nat), a (10 : Nat), a (11 : Nat), a (12 : Nat), a (13 : Nat), a (14 : Nat), a (15 : Nat)].getD ((2 : Nat)) (0 : Int) * (2 : Int) ^ (8 : Nat)))
def prV_f (a : Nat → Int) :=
  ([a (0 : Nat), a (1 : Nat), a (2 : Nat), a (3 : Nat), a (4 : Nat), a (5 : Nat), a (6 : Nat), a (7 : Nat), a (8 : Nat), a (9 : Nat), a (10 : Nat), a (11 : Nat), a (12 : Nat), a (13 : Nat), a (14 : Nat), a (15 : Nat)].getD ((3 : Nat)) (0 : Int))
def prV_g (a : Nat → Int) :=
  ([a (0 : Nat), a (1 : Nat), a (2 : Nat), a (3 : Nat), a (4 : Nat), a (5 : Nat), a (6 : Nat), a (7 : Nat), a (8 : Nat), a (9 : Nat), a (10 : Nat), a (11 : Nat), a (12 : Nat), a (13 : Nat), a (14 : Nat), a (15 : Nat)].getD ((5 : Nat)) (0 : Int))
def prV_h (a : Nat → Int) :=
  (IntKind.i64.wrap ([a (0 : Nat), a (1 : Nat), a (2 : Nat), a (3 : Nat), a (4 : Nat), a (5 : Nat), a (6 : Nat), a (7 : Nat), a (8 : Nat), a (9 : Nat), a (10 : Nat), a (11 : Nat), a (12 : Nat), a (13 : Nat), a (14 : Nat), a (15 : Nat)].getD ((4 : Nat)) (0 : Int) * (2 : Int) ^ (8 : Nat)))
def prV_i (a : Nat → Int) :=
  ([a (0 : Nat), a (1 : Nat), a (2 : Nat), a (3 : Nat), a (4 : Nat), a (5 : Nat), a (6 : Nat), a (7 : Nat), a (8 : Nat), a (9 : Nat), a (10 : Nat), a (11 : Nat), a (12 : Nat), a (13 : Nat), a (14 : Nat), a (15 : Nat)].getD ((7 : Nat)) (0 : Int))
def prV_j (a : Nat → Int) :=
  (IntKind.i64.wrap ([a (0 : Nat), a (1 : Nat), a (2 : Nat), a (3 : Nat), a (4 : Nat), a (5 : Nat), a (6 : Nat), a (7 : Nat), a (8 : Nat), a (9 : Nat), a (10 : Nat), a (11 : Nat), a (12 : Nat), a (13 : Nat), a (14 : Nat), a (15 : Nat)].getD ((6 : Nat)) (0 : Int) * (2 : Int) ^ (8 : Nat)))
def prV_k (a : Nat → Int) :=
  ([a (0 : Nat), a (1 : Nat), a (2 : Nat), a (3 : Nat), a (4 : Nat), a (5 : Nat), a (6 : Nat), a (7 : Nat), a (8 : Nat), a (9 : Nat), a (10 : Nat), a (11 : Nat), a (12 : Nat), a (13 : Nat), a (14 : Nat), a (15 : Nat)].getD ((13 : Nat)) (0 : Int))
def prV_l (a : Nat → Int) :=
  ([a (0 : Nat), a (1 : Nat), a (2 : Nat), a (3 : Nat), a (4 : Nat), a (5 : Nat), a (6 : Nat), a (7 : Nat), a (8 : Nat), a (9 : Nat), a (10 : Nat), a (11 : Nat), a (12 : Nat), a (13 : Nat), a (14 : Nat), a (15 : Nat)].getD ((9 : Nat)) (0 : Int))
def prV_m (a : Nat → Int) :=
  (IntKind.i64.wrap ([a (0 : Nat), a (1 : Nat), a (2 : Nat), a (3 : Nat), a (4 : Nat), a (5 : Nat), a (6 : Nat), a (7 : Nat), a (8 : Nat), a (9 : Nat), a (10 : Nat), a (11 : Nat), a (12 : Nat), a (13 : Nat), a (14 : Nat), a (15 : Nat)].getD ((8 : Nat)) (0 : Int) * (2 : Int) ^ (8 : Nat)))
def prV_n (a : Nat → Int) :=
  ([a (0 : Nat), a (1 : Nat), a (2 : Nat), a (3 : Nat), a (4 : Nat), a (5 : Nat), a (6 : Nat), a (7 : Nat), a (8 : Nat), a (9 : Nat), a (10 : Nat), a (11 : Nat), a (12 : Nat), a (13 : Nat), a (14 : Nat), a (15 : Nat)].getD ((15 : Nat)) (0 : Int))
def prV_o (a : Nat → Int) :=
  ([a (0 : Nat), a (1 : Nat), a (2 : Nat), a (3 : Nat), a (4 : Nat), a (5 : Nat), a (6 : Nat), a (7 : Nat), a (8 : Nat), a (9 : Nat), a (10 : Nat), a (11 : Nat), a (12 : Nat), a (13 : Nat), a (14 : Nat), a (15 : Nat)].getD ((11 : Nat)) (0 : Int))
def prV_p :=
  ((0 : Int) + (1 : Int) + (1 : Int) + (1 : Int) + (1 : Int) + (1 : Int) + (1 : Int) + (1 : Int))
def prV_q (a : Nat → Int) :=
  (IntKind.i64.wrap ([a (0 : Nat), a (1 : Nat), a (2 : Nat), a (3 : Nat), a (4 : Nat), a (5 : Nat), a (6 : Nat), a (7 : Nat), a (8 : Nat), a (9 : Nat), a (10 : Nat), a (11 : Nat), a (12 : Nat), a (13 : Nat), a (14 : Nat), a (15 : Nat)].getD ((10 : Nat)) (0 : Int) * (2 : Int) ^ (8 : Nat)))
def prV_r (a : Nat → Int) :=
  (((27 : Nat) = (27 : TypeId) ∧ true = true) ∧ a (0 : Nat) = a (0 : Nat) ∧ a (1 : Nat) = a (1 : Nat) ∧ a (2 : Nat) = a (2 : Nat) ∧ a (3 : Nat) = a (3 : Nat) ∧ a (4 : Nat) = a (4 : Nat) ∧ a (5 : Nat) = a (5 : Nat) ∧ a (6 : Nat) = a (6 : Nat) ∧ a (7 : Nat) = a (7 : Nat) ∧ a (8 : Nat) = a (8 : Nat) ∧ a (9 : Nat) = a (9 : Nat) ∧ a (10 : Nat) = a (10 : Nat) ∧ a (11 : Nat) = a (11 : Nat) ∧ a (12 : Nat) = a (12 : Nat) ∧ a (13 : Nat) = a (13 : Nat) ∧ a (14 : Nat) = a (14 : Nat) ∧ a (15 : Nat) = a (15 : Nat) ∧ True)
def prV_s :=
  ((0 : Int) + (1 : Int) + (1 : Int) + (1 : Int) + (1 : Int) + (1 : Int) + (1 : Int))
def prV_t (a : Nat → Int) :=
  ([a (0 : Nat), a (1 : Nat), a (2 : Nat), a (3 : Nat), a (4 : Nat), a (5 : Nat), a (6 : Nat), a (7 : Nat), a (8 : Nat), a (9 : Nat), a (10 : Nat), a (11 : Nat), a (12 : Nat), a (13 : Nat), a (14 : Nat), a (15 : Nat)].getD ((12 : Nat)) (0 : Int))
def prV_u (a : Nat → Int) :=
  ([a (0 : Nat), a (1 : Nat), a (2 : Nat), a (3 : Nat), a (4 : Nat), a (5 : Nat), a (6 : Nat), a (7 : Nat), a (8 : Nat), a (9 : Nat), a (10 : Nat), a (11 : Nat), a (12 : Nat), a (13 : Nat), a (14 : Nat), a (15 : Nat)].getD ((14 : Nat)) (0 : Int))
def prV_v (a : Nat → Int) (x : IXAd) :=
  ([gp a (0 : Nat), gp a (1 : Nat), gp a (2 : Nat), gp a (3 : Nat), gp a (4 : Nat), gp a (5 : Nat), gp a (6 : Nat), gp a (7 : Nat)].getD (↑x.i : Int).toNat (0 : Int))
def prV_w :=
  ((0 : Int) + (1 : Int) + (1 : Int) + (1 : Int) + (1 : Int) + (1 : Int))
def prV_x :=
  ((0 : Int) + (1 : Int) + (1 : Int) + (1 : Int) + (1 : Int))
def prV_y :=
  ((0 : Int) + (1 : Int) + (1 : Int) + (1 : Int))
def prV (a : Nat → Int) : Prop :=
  ((is4 fun (i : Nat) => [a (0 : Nat), a (1 : Nat), a (2 : Nat), a (3 : Nat), a (4 : Nat), a (5 : Nat), a (6 : Nat), a (7 : Nat), a (8 : Nat), a (9 : Nat), a (10 : Nat), a (11 : Nat), a (12 : Nat), a (13 : Nat), a (14 : Nat), a (15 : Nat)].getD i (0 : Int)) = true → ((0 : Int) ≤ (12 : Int) ∧ (12 : Int) ≤ (↑(16 : Nat) : Int) ∧ (↑(16 : Nat) : Int) ≤ (↑(16 : Nat) : Int) ∧ (0 : Int) ≤ (0 : Int) ∧ (0 : Int) < (↑((4 : Nat)) : Int) ∧ (12 : Nat) < [a (0 : Nat), a (1 : Nat), a (2 : Nat), a (3 : Nat), a (4 : Nat), a (5 : Nat), a (6 : Nat), a (7 : Nat), a (8 : Nat), a (9 : Nat), a (10 : Nat), a (11 : Nat), a (12 : Nat), a (13 : Nat), a (14 : Nat), a (15 : Nat)].length ∧ in64 (prV_t a) ∧ (0 : Int) ≤ [a (0 : Nat), a (1 : Nat), a (2 : Nat), a (3 : Nat), a (4 : Nat), a (5 : Nat), a (6 : Nat), a (7 : Nat), a (8 : Nat), a (9 : Nat), a (10 : Nat), a (11 : Nat), a (12 : Nat), a (13 : Nat), a (14 : Nat), a (15 : Nat)].getD ((12 : Nat)) (0 : Int) ∧ [a (0 : Nat), a (1 : Nat), a (2 : Nat), a (3 : Nat), a (4 : Nat), a (5 : Nat), a (6 : Nat), a (7 : Nat), a (8 : Nat), a (9 : Nat), a (10 : Nat), a (11 : Nat), a (12 : Nat), a (13 : Nat), a (14 : Nat), a (15 : Nat)].getD ((12 : Nat)) (0 : Int) ≤ (1000000 : Int) ∧ (0 : Nat) = (0 : Nat) ∧ (16 : Nat) ≤ (140737488355328 : Nat) ∧ (1 : Nat) ≤ (140737488355328 : Nat) ∧ in64 ((0 : Int) + (1 : Int)) ∧ (0 : Int) ≤ (0 : Int) + (1 : Int) ∧ (0 : Int) + (1 : Int) < (↑((4 : Nat)) : Int) ∧ (13 : Nat) < [a (0 : Nat), a (1 : Nat), a (2 : Nat), a (3 : Nat), a (4 : Nat), a (5 : Nat), a (6 : Nat), a (7 : Nat), a (8 : Nat), a (9 : Nat), a (10 : Nat), a (11 : Nat), a (12 : Nat), a (13 : Nat), a (14 : Nat), a (15 : Nat)].length ∧ in64 (prV_k a) ∧ (0 : Int) ≤ [a (0 : Nat), a (1 : Nat), a (2 : Nat), a (3 : Nat), a (4 : Nat), a (5 : Nat), a (6 : Nat), a (7 : Nat), a (8 : Nat), a (9 : Nat), a (10 : Nat), a (11 : Nat), a (12 : Nat), a (13 : Nat), a (14 : Nat), a (15 : Nat)].getD ((13 : Nat)) (0 : Int) ∧ [a (0 : Nat), a (1 : Nat), a (2 : Nat), a (3 : Nat), a (4 : Nat), a (5 : Nat), a (6 : Nat), a (7 : Nat), a (8 : Nat), a (9 : Nat), a (10 : Nat), a (11 : Nat), a (12 : Nat), a (13 : Nat), a (14 : Nat), a (15 : Nat)].getD ((13 : Nat)) (0 : Int) ≤ (1000000 : Int) ∧ (1 : Nat) = (1 : Nat) ∧ (32 : Nat) ≤ (140737488355328 : Nat) ∧ (2 : Nat) ≤ (140737488355328 : Nat) ∧ in64 ((0 : Int) + (1 : Int) + (1 : Int)) ∧ (0 : Int) ≤ (0 : Int) + (1 : Int) + (1 : Int) ∧ (0 : Int) + (1 : Int) + (1 : Int) < (↑((4 : Nat)) : Int) ∧ (14 : Nat) < [a (0 : Nat), a (1 : Nat), a (2 : Nat), a (3 : Nat), a (4 : Nat), a (5 : Nat), a (6 : Nat), a (7 : Nat), a (8 : Nat), a (9 : Nat), a (10 : Nat), a (11 : Nat), a (12 : Nat), a (13 : Nat), a (14 : Nat), a (15 : Nat)].length ∧ in64 (prV_u a) ∧ (0 : Int) ≤ [a (0 : Nat), a (1 : Nat), a (2 : Nat), a (3 : Nat), a (4 : Nat), a (5 : Nat), a (6 : Nat), a (7 : Nat), a (8 : Nat), a (9 : Nat), a (10 : Nat), a (11 : Nat), a (12 : Nat), a (13 : Nat), a (14 : Nat), a (15 : Nat)].getD ((14 : Nat)) (0 : Int) ∧ [a (0 : Nat), a (1 : Nat), a (2 : Nat), a (3 : Nat), a (4 : Nat), a (5 : Nat), a (6 : Nat), a (7 : Nat), a (8 : Nat), a (9 : Nat), a (10 : Nat), a (11 : Nat), a (12 : Nat), a (13 : Nat), a (14 : Nat), a (15 : Nat)].getD ((14 : Nat)) (0 : Int) ≤ (1000000 : Int) ∧ (2 : Nat) = (2 : Nat) ∧ (48 : Nat) ≤ (140737488355328 : Nat) ∧ (3 : Nat) ≤ (140737488355328 : Nat) ∧ in64 prV_y ∧ (0 : Int) ≤ (0 : Int) + (1 : Int) + (1 : Int) + (1 : Int) ∧ (0 : Int) + (1 : Int) + (1 : Int) + (1 : Int) < (↑((4 : Nat)) : Int) ∧ (15 : Nat) < [a (0 : Nat), a (1 : Nat), a (2 : Nat), a (3 : Nat), a (4 : Nat), a (5 : Nat), a (6 : Nat), a (7 : Nat), a (8 : Nat), a (9 : Nat), a (10 : Nat), a (11 : Nat), a (12 : Nat), a (13 : Nat), a (14 : Nat), a (15 : Nat)].length ∧ in64 (prV_n a) ∧ (0 : Int) ≤ [a (0 : Nat), a (1 : Nat), a (2 : Nat), a (3 : Nat), a (4 : Nat), a (5 : Nat), a (6 : Nat), a (7 : Nat), a (8 : Nat), a (9 : Nat), a (10 : Nat), a (11 : Nat), a (12 : Nat), a (13 : Nat), a (14 : Nat), a (15 : Nat)].getD ((15 : Nat)) (0 : Int) ∧ [a (0 : Nat), a (1 : Nat), a (2 : Nat), a (3 : Nat), a (4 : Nat), a (5 : Nat), a (6 : Nat), a (7 : Nat), a (8 : Nat), a (9 : Nat), a (10 : Nat), a (11 : Nat), a (12 : Nat), a (13 : Nat), a (14 : Nat), a (15 : Nat)].getD ((15 : Nat)) (0 : Int) ≤ (1000000 : Int) ∧ (3 : Nat) = (3 : Nat) ∧ (64 : Nat) ≤ (140737488355328 : Nat) ∧ (4 : Nat) ≤ (140737488355328 : Nat) ∧ in64 prV_x ∧ ∃ (x : (prB a).σ), is4 a = true ∧ true = true ∧ XV.ptr (0 : Nat) (0 : Nat) (0 : Nat) (0 : Nat) = XV.ptr (0 : Nat) (0 : Nat) (0 : Nat) (0 : Nat) ∧ { data := #[] : ByteArray } = { data := #[] : ByteArray } ∧ XV.sl ((0 : Nat) + (1 : Nat)) (1 : Nat) (0 : Nat) ((4 : Nat)) = XV.sl (1 : Nat) (1 : Nat) (0 : Nat) (4 : Nat) ∧ (prV_r a) ∧ (((9 : TypeId) = (9 : TypeId) ∧ true = true ∧ (1 : Nat) = (1 : Nat)) ∧ (4 : Nat) = (4 : Nat) ∧ ∀ (j : Nat), j < (4 : Nat) → [XT (bif j.blt ((3 : Nat)) then bif j.blt ((2 : Nat)) then bif j.blt ((1 : Nat)) then itoaB (prV_t a) else itoaB (prV_k a) else itoaB (prV_u a) else itoaB (prV_n a))] = [XT (prF a j)]) ∧ True) ∧ ∀ (x : UX), is4 a = true → (4 : Nat) = (4 : Nat) ∧ (∀ (i : Nat), i < (4 : Nat) → [XT (prF a i)] = [XT (prF a i)]) ∧ (4 : Nat) ≤ (1000 : Nat) ∧ (∀ (i : Nat), i < (4 : Nat) → (prF a i).size ≤ (1000000 : Nat)) ∧ (1 : Nat) ≤ (1000 : Nat) ∧ joinB [prF a ((0 : Nat)), prF a ((1 : Nat)), prF a ((2 : Nat)), prF a ((3 : Nat))] { data := #[(46 : UInt8)] : ByteArray } = prn a) ∧ ((is4 fun (i : Nat) => [a (0 : Nat), a (1 : Nat), a (2 : Nat), a (3 : Nat), a (4 : Nat), a (5 : Nat), a (6 : Nat), a (7 : Nat), a (8 : Nat), a (9 : Nat), a (10 : Nat), a (11 : Nat), a (12 : Nat), a (13 : Nat), a (14 : Nat), a (15 : Nat)].getD i (0 : Int)) = false → (in64 ((2 : Int) * (0 : Int)) ∧ (0 : Int) ≤ (2 : Int) * (0 : Int) ∧ (2 : Int) * (0 : Int) < (↑(16 : Nat) : Int) ∧ (0 : Nat) < [a (0 : Nat), a (1 : Nat), a (2 : Nat), a (3 : Nat), a (4 : Nat), a (5 : Nat), a (6 : Nat), a (7 : Nat), a (8 : Nat), a (9 : Nat), a (10 : Nat), a (11 : Nat), a (12 : Nat), a (13 : Nat), a (14 : Nat), a (15 : Nat)].length ∧ in64 ([a (0 : Nat), a (1 : Nat), a (2 : Nat), a (3 : Nat), a (4 : Nat), a (5 : Nat), a (6 : Nat), a (7 : Nat), a (8 : Nat), a (9 : Nat), a (10 : Nat), a (11 : Nat), a (12 : Nat), a (13 : Nat), a (14 : Nat), a (15 : Nat)].getD ((0 : Nat)) (0 : Int)) ∧ in64 ((2 : Int) * (0 : Int)) ∧ in64 ((2 : Int) * (0 : Int) + (1 : Int)) ∧ (0 : Int) ≤ (2 : Int) * (0 : Int) + (1 : Int) ∧ (2 : Int) * (0 : Int) + (1 : Int) < (↑(16 : Nat) : Int) ∧ (1 : Nat) < [a (0 : Nat), a (1 : Nat), a (2 : Nat), a (3 : Nat), a (4 : Nat), a (5 : Nat), a (6 : Nat), a (7 : Nat), a (8 : Nat), a (9 : Nat), a (10 : Nat), a (11 : Nat), a (12 : Nat), a (13 : Nat), a (14 : Nat), a (15 : Nat)].length ∧ in64 (prV_d a) ∧ (0 : Int) ≤ (0 : Int) ∧ (0 : Int) < (↑(8 : Nat) : Int) ∧ (0 : Nat) < (8 : Nat) ∧ in64 ((0 : Int) + (1 : Int)) ∧ in64 ((2 : Int) * ((0 : Int) + (1 : Int))) ∧ (0 : Int) ≤ (2 : Int) * ((0 : Int) + (1 : Int)) ∧ (2 : Int) * ((0 : Int) + (1 : Int)) < (↑(16 : Nat) : Int) ∧ (2 : Nat) < [a (0 : Nat), a (1 : Nat), a (2 : Nat), a (3 : Nat), a (4 : Nat), a (5 : Nat), a (6 : Nat), a (7 : Nat), a (8 : Nat), a (9 : Nat), a (10 : Nat), a (11 : Nat), a (12 : Nat), a (13 : Nat), a (14 : Nat), a (15 : Nat)].length ∧ in64 ([a (0 : Nat), a (1 : Nat), a (2 : Nat), a (3 : Nat), a (4 : Nat), a (5 : Nat), a (6 : Nat), a (7 : Nat), a (8 : Nat), a (9 : Nat), a (10 : Nat), a (11 : Nat), a (12 : Nat), a (13 : Nat), a (14 : Nat), a (15 : Nat)].getD ((2 : Nat)) (0 : Int)) ∧ in64 ((2 : Int) * ((0 : Int) + (1 : Int))) ∧ in64 ((2 : Int) * ((0 : Int) + (1 : Int)) + (1 : Int)) ∧ (0 : Int) ≤ (2 : Int) * ((0 : Int) + (1 : Int)) + (1 : Int) ∧ (2 : Int) * ((0 : Int) + (1 : Int)) + (1 : Int) < (↑(16 : Nat) : Int) ∧ (3 : Nat) < [a (0 : Nat), a (1 : Nat), a (2 : Nat), a (3 : Nat), a (4 : Nat), a (5 : Nat), a (6 : Nat), a (7 : Nat), a (8 : Nat), a (9 : Nat), a (10 : Nat), a (11 : Nat), a (12 : Nat), a (13 : Nat), a (14 : Nat), a (15 : Nat)].length ∧ in64 (prV_f a) ∧ (0 : Int) ≤ (0 : Int) + (1 : Int) ∧ (0 : Int) + (1 : Int) < (↑(8 : Nat) : Int) ∧ (1 : Nat) < [bits BinOp.or IntKind.i64 (prV_c a) (prV_d a), (0 : Int), (0 : Int), (0 : Int), (0 : Int), (0 : Int), (0 : Int), (0 : Int)].length ∧ in64 ((0 : Int) + (1 : Int) + (1 : Int)) ∧ in64 ((2 : Int) * ((0 : Int) + (1 : Int) + (1 : Int))) ∧ (0 : Int) ≤ (2 : Int) * ((0 : Int) + (1 : Int) + (1 : Int)) ∧ (2 : Int) * ((0 : Int) + (1 : Int) + (1 : Int)) < (↑(16 : Nat) : Int) ∧ (4 : Nat) < [a (0 : Nat), a (1 : Nat), a (2 : Nat), a (3 : Nat), a (4 : Nat), a (5 : Nat), a (6 : Nat), a (7 : Nat), a (8 : Nat), a (9 : Nat), a (10 : Nat), a (11 : Nat), a (12 : Nat), a (13 : Nat), a (14 : Nat), a (15 : Nat)].length ∧ in64 ([a (0 : Nat), a (1 : Nat), a (2 : Nat), a (3 : Nat), a (4 : Nat), a (5 : Nat), a (6 : Nat), a (7 : Nat), a (8 : Nat), a (9 : Nat), a (10 : Nat), a (11 : Nat), a (12 : Nat), a (13 : Nat), a (14 : Nat), a (15 : Nat)].getD ((4 : Nat)) (0 : Int)) ∧ in64 ((2 : Int) * ((0 : Int) + (1 : Int) + (1 : Int))) ∧ in64 ((2 : Int) * ((0 : Int) + (1 : Int) + (1 : Int)) + (1 : Int)) ∧ (0 : Int) ≤ (2 : Int) * ((0 : Int) + (1 : Int) + (1 : Int)) + (1 : Int) ∧ (2 : Int) * ((0 : Int) + (1 : Int) + (1 : Int)) + (1 : Int) < (↑(16 : Nat) : Int) ∧ (5 : Nat) < [a (0 : Nat), a (1 : Nat), a (2 : Nat), a (3 : Nat), a (4 : Nat), a (5 : Nat), a (6 : Nat), a (7 : Nat), a (8 : Nat), a (9 : Nat), a (10 : Nat), a (11 : Nat), a (12 : Nat), a (13 : Nat), a (14 : Nat), a (15 : Nat)].length ∧ in64 (prV_g a) ∧ (0 : Int) ≤ (0 : Int) + (1 : Int) + (1 : Int) ∧ (0 : Int) + (1 : Int) + (1 : Int) < (↑(8 : Nat) : Int) ∧ (2 : Nat) < [bits BinOp.or IntKind.i64 (prV_c a) (prV_d a), bits BinOp.or IntKind.i64 (prV_e a) (prV_f a), (0 : Int), (0 : Int), (0 : Int), (0 : Int), (0 : Int), (0 : Int)].length ∧ in64 prV_y ∧ in64 ((2 : Int) * prV_y) ∧ (0 : Int) ≤ (2 : Int) * prV_y ∧ (2 : Int) * prV_y < (↑(16 : Nat) : Int) ∧ (6 : Nat) < [a (0 : Nat), a (1 : Nat), a (2 : Nat), a (3 : Nat), a (4 : Nat), a (5 : Nat), a (6 : Nat), a (7 : Nat), a (8 : Nat), a (9 : Nat), a (10 : Nat), a (11 : Nat), a (12 : Nat), a (13 : Nat), a (14 : Nat), a (15 : Nat)].length ∧ in64 ([a (0 : Nat), a (1 : Nat), a (2 : Nat), a (3 : Nat), a (4 : Nat), a (5 : Nat), a (6 : Nat), a (7 : Nat), a (8 : Nat), a (9 : Nat), a (10 : Nat), a (11 : Nat), a (12 : Nat), a (13 : Nat), a (14 : Nat), a (15 : Nat)].getD ((6 : Nat)) (0 : Int)) ∧ in64 ((2 : Int) * prV_y) ∧ in64 ((2 : Int) * prV_y + (1 : Int)) ∧ (0 : Int) ≤ (2 : Int) * prV_y + (1 : Int) ∧ (2 : Int) * prV_y + (1 : Int) < (↑(16 : Nat) : Int) ∧ (7 : Nat) < [a (0 : Nat), a (1 : Nat), a (2 : Nat), a (3 : Nat), a (4 : Nat), a (5 : Nat), a (6 : Nat), a (7 : Nat), a (8 : Nat), a (9 : Nat), a (10 : Nat), a (11 : Nat), a (12 : Nat), a (13 : Nat), a (14 : Nat), a (15 : Nat)].length ∧ in64 (prV_i a) ∧ (0 : Int) ≤ (0 : Int) + (1 : Int) + (1 : Int) + (1 : Int) ∧ (0 : Int) + (1 : Int) + (1 : Int) + (1 : Int) < (↑(8 : Nat) : Int) ∧ (3 : Nat) < [bits BinOp.or IntKind.i64 (prV_c a) (prV_d a), bits BinOp.or IntKind.i64 (prV_e a) (prV_f a), bits BinOp.or IntKind.i64 (prV_h a) (prV_g a), (0 : Int), (0 : Int), (0 : Int), (0 : Int), (0 : Int)].length ∧ in64 prV_x ∧ in64 ((2 : Int) * prV_x) ∧ (0 : Int) ≤ (2 : Int) * prV_x ∧ (2 : Int) * prV_x < (↑(16 : Nat) : Int) ∧ (8 : Nat) < [a (0 : Nat), a (1 : Nat), a (2 : Nat), a (3 : Nat), a (4 : Nat), a (5 : Nat), a (6 : Nat), a (7 : Nat), a (8 : Nat), a (9 : Nat), a (10 : Nat), a (11 : Nat), a (12 : Nat), a (13 : Nat), a (14 : Nat), a (15 : Nat)].length ∧ in64 ([a (0 : Nat), a (1 : Nat), a (2 : Nat), a (3 : Nat), a (4 : Nat), a (5 : Nat), a (6 : Nat), a (7 : Nat), a (8 : Nat), a (9 : Nat), a (10 : Nat), a (11 : Nat), a (12 : Nat), a (13 : Nat), a (14 : Nat), a (15 : Nat)].getD ((8 : Nat)) (0 : Int)) ∧ in64 ((2 : Int) * prV_x) ∧ in64 ((2 : Int) * prV_x + (1 : Int)) ∧ (0 : Int) ≤ (2 : Int) * prV_x + (1 : Int) ∧ (2 : Int) * prV_x + (1 : Int) < (↑(16 : Nat) : Int) ∧ (9 : Nat) < [a (0 : Nat), a (1 : Nat), a (2 : Nat), a (3 : Nat), a (4 : Nat), a (5 : Nat), a (6 : Nat), a (7 : Nat), a (8 : Nat), a (9 : Nat), a (10 : Nat), a (11 : Nat), a (12 : Nat), a (13 : Nat), a (14 : Nat), a (15 : Nat)].length ∧ in64 (prV_l a) ∧ (0 : Int) ≤ (0 : Int) + (1 : Int) + (1 : Int) + (1 : Int) + (1 : Int) ∧ (0 : Int) + (1 : Int) + (1 : Int) + (1 : Int) + (1 : Int) < (↑(8 : Nat) : Int) ∧ (4 : Nat) < [bits BinOp.or IntKind.i64 (prV_c a) (prV_d a), bits BinOp.or IntKind.i64 (prV_e a) (prV_f a), bits BinOp.or IntKind.i64 (prV_h a) (prV_g a), bits BinOp.or IntKind.i64 (prV_j a) (prV_i a), (0 : Int), (0 : Int), (0 : Int), (0 : Int)].length ∧ in64 prV_w ∧ in64 ((2 : Int) * prV_w) ∧ (0 : Int) ≤ (2 : Int) * prV_w ∧ (2 : Int) * prV_w < (↑(16 : Nat) : Int) ∧ (10 : Nat) < [a (0 : Nat), a (1 : Nat), a (2 : Nat), a (3 : Nat), a (4 : Nat), a (5 : Nat), a (6 : Nat), a (7 : Nat), a (8 : Nat), a (9 : Nat), a (10 : Nat), a (11 : Nat), a (12 : Nat), a (13 : Nat), a (14 : Nat), a (15 : Nat)].length ∧ in64 ([a (0 : Nat), a (1 : Nat), a (2 : Nat), a (3 : Nat), a (4 : Nat), a (5 : Nat), a (6 : Nat), a (7 : Nat), a (8 : Nat), a (9 : Nat), a (10 : Nat), a (11 : Nat), a (12 : Nat), a (13 : Nat), a (14 : Nat), a (15 : Nat)].getD ((10 : Nat)) (0 : Int)) ∧ in64 ((2 : Int) * prV_w) ∧ in64 ((2 : Int) * prV_w + (1 : Int)) ∧ (0 : Int) ≤ (2 : Int) * prV_w + (1 : Int) ∧ (2 : Int) * prV_w + (1 : Int) < (↑(16 : Nat) : Int) ∧ (11 : Nat) < [a (0 : Nat), a (1 : Nat), a (2 : Nat), a (3 : Nat), a (4 : Nat), a (5 : Nat), a (6 : Nat), a (7 : Nat), a (8 : Nat), a (9 : Nat), a (10 : Nat), a (11 : Nat), a (12 : Nat), a (13 : Nat), a (14 : Nat), a (15 : Nat)].length ∧ in64 (prV_o a) ∧ (0 : Int) ≤ (0 : Int) + (1 : Int) + (1 : Int) + (1 : Int) + (1 : Int) + (1 : Int) ∧ (0 : Int) + (1 : Int) + (1 : Int) + (1 : Int) + (1 : Int) + (1 : Int) < (↑(8 : Nat) : Int) ∧ (5 : Nat) < [bits BinOp.or IntKind.i64 (prV_c a) (prV_d a), bits BinOp.or IntKind.i64 (prV_e a) (prV_f a), bits BinOp.or IntKind.i64 (prV_h a) (prV_g a), bits BinOp.or IntKind.i64 (prV_j a) (prV_i a), bits BinOp.or IntKind.i64 (prV_m a) (prV_l a), (0 : Int), (0 : Int), (0 : Int)].length ∧ in64 prV_s ∧ in64 ((2 : Int) * prV_s) ∧ (0 : Int) ≤ (2 : Int) * prV_s ∧ (2 : Int) * prV_s < (↑(16 : Nat) : Int) ∧ (12 : Nat) < [a (0 : Nat), a (1 : Nat), a (2 : Nat), a (3 : Nat), a (4 : Nat), a (5 : Nat), a (6 : Nat), a (7 : Nat), a (8 : Nat), a (9 : Nat), a (10 : Nat), a (11 : Nat), a (12 : Nat), a (13 : Nat), a (14 : Nat), a (15 : Nat)].length ∧ in64 (prV_t a) ∧ in64 ((2 : Int) * prV_s) ∧ in64 ((2 : Int) * prV_s + (1 : Int)) ∧ (0 : Int) ≤ (2 : Int) * prV_s + (1 : Int) ∧ (2 : Int) * prV_s + (1 : Int) < (↑(16 : Nat) : Int) ∧ (13 : Nat) < [a (0 : Nat), a (1 : Nat), a (2 : Nat), a (3 : Nat), a (4 : Nat), a (5 : Nat), a (6 : Nat), a (7 : Nat), a (8 : Nat), a (9 : Nat), a (10 : Nat), a (11 : Nat), a (12 : Nat), a (13 : Nat), a (14 : Nat), a (15 : Nat)].length ∧ in64 (prV_k a) ∧ (0 : Int) ≤ (0 : Int) + (1 : Int) + (1 : Int) + (1 : Int) + (1 : Int) + (1 : Int) + (1 : Int) ∧ (0 : Int) + (1 : Int) + (1 : Int) + (1 : Int) + (1 : Int) + (1 : Int) + (1 : Int) < (↑(8 : Nat) : Int) ∧ (6 : Nat) < [bits BinOp.or IntKind.i64 (prV_c a) (prV_d a), bits BinOp.or IntKind.i64 (prV_e a) (prV_f a), bits BinOp.or IntKind.i64 (prV_h a) (prV_g a), bits BinOp.or IntKind.i64 (prV_j a) (prV_i a), bits BinOp.or IntKind.i64 (prV_m a) (prV_l a), bits BinOp.or IntKind.i64 (prV_q a) (prV_o a), (0 : Int), (0 : Int)].length ∧ in64 prV_p ∧ in64 ((2 : Int) * prV_p) ∧ (0 : Int) ≤ (2 : Int) * prV_p ∧ (2 : Int) * prV_p < (↑(16 : Nat) : Int) ∧ (14 : Nat) < [a (0 : Nat), a (1 : Nat), a (2 : Nat), a (3 : Nat), a (4 : Nat), a (5 : Nat), a (6 : Nat), a (7 : Nat), a (8 : Nat), a (9 : Nat), a (10 : Nat), a (11 : Nat), a (12 : Nat), a (13 : Nat), a (14 : Nat), a (15 : Nat)].length ∧ in64 (prV_u a) ∧ in64 ((2 : Int) * prV_p) ∧ in64 ((2 : Int) * prV_p + (1 : Int)) ∧ (0 : Int) ≤ (2 : Int) * prV_p + (1 : Int) ∧ (2 : Int) * prV_p + (1 : Int) < (↑(16 : Nat) : Int) ∧ (15 : Nat) < [a (0 : Nat), a (1 : Nat), a (2 : Nat), a (3 : Nat), a (4 : Nat), a (5 : Nat), a (6 : Nat), a (7 : Nat), a (8 : Nat), a (9 : Nat), a (10 : Nat), a (11 : Nat), a (12 : Nat), a (13 : Nat), a (14 : Nat), a (15 : Nat)].length ∧ in64 (prV_n a) ∧ (0 : Int) ≤ (0 : Int) + (1 : Int) + (1 : Int) + (1 : Int) + (1 : Int) + (1 : Int) + (1 : Int) + (1 : Int) ∧ (0 : Int) + (1 : Int) + (1 : Int) + (1 : Int) + (1 : Int) + (1 : Int) + (1 : Int) + (1 : Int) < (↑(8 : Nat) : Int) ∧ (7 : Nat) < [bits BinOp.or IntKind.i64 (prV_c a) (prV_d a), bits BinOp.or IntKind.i64 (prV_e a) (prV_f a), bits BinOp.or IntKind.i64 (prV_h a) (prV_g a), bits BinOp.or IntKind.i64 (prV_j a) (prV_i a), bits BinOp.or IntKind.i64 (prV_m a) (prV_l a), bits BinOp.or IntKind.i64 (prV_q a) (prV_o a), bits BinOp.or IntKind.i64 (IntKind.i64.wrap ([a (0 : Nat), a (1 : Nat), a (2 : Nat), a (3 : Nat), a (4 : Nat), a (5 : Nat), a (6 : Nat), a (7 : Nat), a (8 : Nat), a (9 : Nat), a (10 : Nat), a (11 : Nat), a (12 : Nat), a (13 : Nat), a (14 : Nat), a (15 : Nat)].getD ((12 : Nat)) (0 : Int) * (2 : Int) ^ (8 : Nat))) (prV_k a), (0 : Int)].length ∧ in64 ((0 : Int) + (1 : Int) + (1 : Int) + (1 : Int) + (1 : Int) + (1 : Int) + (1 : Int) + (1 : Int) + (1 : Int)) ∧ ∃ (x : (prC a).σ), True ∧ true = true ∧ XV.ptr (0 : Nat) (0 : Nat) (0 : Nat) (0 : Nat) = XV.ptr (0 : Nat) (0 : Nat) (0 : Nat) (0 : Nat) ∧ { data := #[] : ByteArray } = { data := #[] : ByteArray } ∧ XV.ptr ((0 : Nat) + (1 : Nat)) (0 : Nat) (0 : Nat) (0 : Nat) = XV.ptr (1 : Nat) (0 : Nat) (0 : Nat) (0 : Nat) ∧ (prV_r a) ∧ (((69 : Nat) = (69 : TypeId) ∧ true = true) ∧ bits BinOp.or IntKind.i64 (prV_c a) (prV_d a) = gp a (0 : Nat) ∧ bits BinOp.or IntKind.i64 (prV_e a) (prV_f a) = gp a (1 : Nat) ∧ bits BinOp.or IntKind.i64 (prV_h a) (prV_g a) = gp a (2 : Nat) ∧ bits BinOp.or IntKind.i64 (prV_j a) (prV_i a) = gp a (3 : Nat) ∧ bits BinOp.or IntKind.i64 (prV_m a) (prV_l a) = gp a (4 : Nat) ∧ bits BinOp.or IntKind.i64 (prV_q a) (prV_o a) = gp a (5 : Nat) ∧ bits BinOp.or IntKind.i64 (IntKind.i64.wrap ([a (0 : Nat), a (1 : Nat), a (2 : Nat), a (3 : Nat), a (4 : Nat), a (5 : Nat), a (6 : Nat), a (7 : Nat), a (8 : Nat), a (9 : Nat), a (10 : Nat), a (11 : Nat), a (12 : Nat), a (13 : Nat), a (14 : Nat), a (15 : Nat)].getD ((12 : Nat)) (0 : Int) * (2 : Int) ^ (8 : Nat))) (prV_k a) = gp a (6 : Nat) ∧ bits BinOp.or IntKind.i64 (IntKind.i64.wrap ([a (0 : Nat), a (1 : Nat), a (2 : Nat), a (3 : Nat), a (4 : Nat), a (5 : Nat), a (6 : Nat), a (7 : Nat), a (8 : Nat), a (9 : Nat), a (10 : Nat), a (11 : Nat), a (12 : Nat), a (13 : Nat), a (14 : Nat), a (15 : Nat)].getD ((14 : Nat)) (0 : Int) * (2 : Int) ^ (8 : Nat))) (prV_n a) = gp a (7 : Nat) ∧ True) ∧ True) ∧ ∀ (x : UX), True → (∃ (x : (prI a).σ), x.i.le (8 : Nat) ∧ true = true ∧ XV.ptr (0 : Nat) (0 : Nat) (0 : Nat) (0 : Nat) = XV.ptr (0 : Nat) (0 : Nat) (0 : Nat) (0 : Nat) ∧ { data := #[] : ByteArray } = { data := #[] : ByteArray } ∧ XV.ptr (1 : Nat) (0 : Nat) (0 : Nat) (0 : Nat) = XV.ptr (1 : Nat) (0 : Nat) (0 : Nat) (0 : Nat) ∧ (-1 : Int) = (best a x.i).fst ∧ (1 : Int) = (best a x.i).snd ∧ (0 : Int) = (↑x.i : Int) ∧ (prV_a a) ∧ (prV_b a) ∧ True) ∧ ∀ (x : IXAd), x.i.le (8 : Nat) → (decide ((↑x.i : Int) < (8 : Int)) = true → ∃ (p : { α := IXAd, J := prJ a : InvP }.α), (∃ (x_1 : ({ α := IXAd, J := prJ a : InvP }.J p).σ), (p.i + x_1.k ≤ (8 : Nat) ∧ ∀ (j : Nat), j < x_1.k → gp a (p.i + j) = (0 : Int)) ∧ true = true ∧ XV.ptr (0 : Nat) (0 : Nat) (0 : Nat) (0 : Nat) = XV.ptr (0 : Nat) (0 : Nat) (0 : Nat) (0 : Nat) ∧ { data := #[] : ByteArray } = { data := #[] : ByteArray } ∧ XV.ptr (1 : Nat) (0 : Nat) (0 : Nat) (0 : Nat) = XV.ptr (1 : Nat) (0 : Nat) (0 : Nat) (0 : Nat) ∧ (best a x.i).fst = (best a p.i).fst ∧ (best a x.i).snd = (best a p.i).snd ∧ (↑x.i : Int) = (↑p.i : Int) ∧ (↑x.i : Int) = (↑p.i : Int) ∧ (0 : Int) = (↑x_1.k : Int) ∧ (prV_a a) ∧ (prV_b a) ∧ True) ∧ ∀ (x_1 : KX), (p.i + x_1.k ≤ (8 : Nat) ∧ ∀ (j : Nat), j < x_1.k → gp a (p.i + j) = (0 : Int)) → in64 ((↑p.i : Int) + (↑x_1.k : Int)) ∧ (decide ((↑p.i : Int) + (↑x_1.k : Int) < (8 : Int)) = true → in64 ((↑p.i : Int) + (↑x_1.k : Int))) ∧ (decide ((↑p.i : Int) + (↑x_1.k : Int) < (8 : Int)) = true → (0 : Int) ≤ (↑p.i : Int) + (↑x_1.k : Int)) ∧ (decide ((↑p.i : Int) + (↑x_1.k : Int) < (8 : Int)) = true → (↑p.i : Int) + (↑x_1.k : Int) < (↑(8 : Nat) : Int)) ∧ (decide ((↑p.i : Int) + (↑x_1.k : Int) < (8 : Int)) = true → ((↑p.i : Int) + (↑x_1.k : Int)).toNat < [gp a (0 : Nat), gp a (1 : Nat), gp a (2 : Nat), gp a (3 : Nat), gp a (4 : Nat), gp a (5 : Nat), gp a (6 : Nat), gp a (7 : Nat)].length) ∧ ((decide ((↑p.i : Int) + (↑x_1.k : Int) < (8 : Int)) && [gp a (0 : Nat), gp a (1 : Nat), gp a (2 : Nat), gp a (3 : Nat), gp a (4 : Nat), gp a (5 : Nat), gp a (6 : Nat), gp a (7 : Nat)].getD ((↑p.i : Int) + (↑x_1.k : Int)).toNat (0 : Int) == (0 : Int)) = true → in64 ((↑x_1.k : Int) + (1 : Int)) ∧ ∃ (x' : ({ α := IXAd, J := prJ a : InvP }.J p).σ), (p.i + x'.k ≤ (8 : Nat) ∧ ∀ (j : Nat), j < x'.k → gp a (p.i + j) = (0 : Int)) ∧ (8 : Nat) - x'.k < (8 : Nat) - x_1.k ∧ true = true ∧ XV.ptr (0 : Nat) (0 : Nat) (0 : Nat) (0 : Nat) = XV.ptr (0 : Nat) (0 : Nat) (0 : Nat) (0 : Nat) ∧ { data := #[] : ByteArray } = { data := #[] : ByteArray } ∧ XV.ptr (1 : Nat) (0 : Nat) (0 : Nat) (0 : Nat) = XV.ptr (1 : Nat) (0 : Nat) (0 : Nat) (0 : Nat) ∧ (best a p.i).fst = (best a p.i).fst ∧ (best a p.i).snd = (best a p.i).snd ∧ (↑p.i : Int) = (↑p.i : Int) ∧ (↑p.i : Int) = (↑p.i : Int) ∧ (↑x_1.k : Int) + (1 : Int) = (↑x'.k : Int) ∧ (prV_a a) ∧ (prV_b a) ∧ True) ∧ ((decide ((↑p.i : Int) + (↑x_1.k : Int) < (8 : Int)) && [gp a (0 : Nat), gp a (1 : Nat), gp a (2 : Nat), gp a (3 : Nat), gp a (4 : Nat), gp a (5 : Nat), gp a (6 : Nat), gp a (7 : Nat)].getD ((↑p.i : Int) + (↑x_1.k : Int)).toNat (0 : Int) == (0 : Int)) = false → (decide ((↑x_1.k : Int) > (best a p.i).snd) = true → in64 ((↑p.i : Int) + (1 : Int)) ∧ ∃ (x' : (prI a).σ), x'.i.le (8 : Nat) ∧ (8 : Nat) - x'.i < (8 : Nat) - x.i ∧ true = true ∧ XV.ptr (0 : Nat) (0 : Nat) (0 : Nat) (0 : Nat) = XV.ptr (0 : Nat) (0 : Nat) (0 : Nat) (0 : Nat) ∧ { data := #[] : ByteArray } = { data := #[] : ByteArray } ∧ XV.ptr (1 : Nat) (0 : Nat) (0 : Nat) (0 : Nat) = XV.ptr (1 : Nat) (0 : Nat) (0 : Nat) (0 : Nat) ∧ (↑p.i : Int) = (best a x'.i).fst ∧ (↑x_1.k : Int) = (best a x'.i).snd ∧ (↑p.i : Int) + (1 : Int) = (↑x'.i : Int) ∧ (prV_a a) ∧ (prV_b a) ∧ True) ∧ (decide ((↑x_1.k : Int) > (best a p.i).snd) = false → in64 ((↑p.i : Int) + (1 : Int)) ∧ ∃ (x' : (prI a).σ), x'.i.le (8 : Nat) ∧ (8 : Nat) - x'.i < (8 : Nat) - x.i ∧ true = true ∧ XV.ptr (0 : Nat) (0 : Nat) (0 : Nat) (0 : Nat) = XV.ptr (0 : Nat) (0 : Nat) (0 : Nat) (0 : Nat) ∧ { data := #[] : ByteArray } = { data := #[] : ByteArray } ∧ XV.ptr (1 : Nat) (0 : Nat) (0 : Nat) (0 : Nat) = XV.ptr (1 : Nat) (0 : Nat) (0 : Nat) (0 : Nat) ∧ (best a p.i).fst = (best a x'.i).fst ∧ (best a p.i).snd = (best a x'.i).snd ∧ (↑p.i : Int) + (1 : Int) = (↑x'.i : Int) ∧ (prV_a a) ∧ (prV_b a) ∧ True))) ∧ (decide ((↑x.i : Int) < (8 : Int)) = false → (∃ (x_1 : (prK a).σ), (x_1.i ≤ (8 : Nat) ∧ ((↑x_1.i : Int) ≤ (best a (8 : Nat)).fst ∨ (best a (8 : Nat)).fst + (best a (8 : Nat)).snd ≤ (↑x_1.i : Int))) ∧ true = true ∧ XV.ptr (0 : Nat) (0 : Nat) (0 : Nat) (0 : Nat) = XV.ptr (0 : Nat) (0 : Nat) (0 : Nat) (0 : Nat) ∧ { data := #[] : ByteArray } = { data := #[] : ByteArray } ∧ XV.ptr (1 : Nat) (0 : Nat) (0 : Nat) (0 : Nat) = XV.ptr (1 : Nat) (0 : Nat) (0 : Nat) (0 : Nat) ∧ (best a x.i).fst = (best a (8 : Nat)).fst ∧ (best a x.i).snd = (best a (8 : Nat)).snd ∧ { data := #[] : ByteArray } = prT a (best a (8 : Nat)).fst (best a (8 : Nat)).snd x_1.i ∧ (0 : Int) = (↑x_1.i : Int) ∧ (prV_a a) ∧ (prV_b a) ∧ True) ∧ ∀ (x : IXAd), x.i ≤ (8 : Nat) ∧ ((↑x.i : Int) ≤ (best a (8 : Nat)).fst ∨ (best a (8 : Nat)).fst + (best a (8 : Nat)).snd ≤ (↑x.i : Int)) → (decide ((↑x.i : Int) < (8 : Int)) = true → (((↑x.i : Int) == (best a (8 : Nat)).fst) = true → (prT a (best a (8 : Nat)).fst (best a (8 : Nat)).snd x.i).size + (2 : Nat) ≤ (9223372036854775807 : Nat) ∧ in64 ((best a (8 : Nat)).snd - (1 : Int)) ∧ in64 ((↑x.i : Int) + ((best a (8 : Nat)).snd - (1 : Int))) ∧ in64 ((↑x.i : Int) + ((best a (8 : Nat)).snd - (1 : Int)) + (1 : Int)) ∧ ∃ (x' : (prK a).σ), (x'.i ≤ (8 : Nat) ∧ ((↑x'.i : Int) ≤ (best a (8 : Nat)).fst ∨ (best a (8 : Nat)).fst + (best a (8 : Nat)).snd ≤ (↑x'.i : Int))) ∧ (8 : Nat) - x'.i < (8 : Nat) - x.i ∧ true = true ∧ XV.ptr (0 : Nat) (0 : Nat) (0 : Nat) (0 : Nat) = XV.ptr (0 : Nat) (0 : Nat) (0 : Nat) (0 : Nat) ∧ { data := #[] : ByteArray } = { data := #[] : ByteArray } ∧ XV.ptr (1 : Nat) (0 : Nat) (0 : Nat) (0 : Nat) = XV.ptr (1 : Nat) (0 : Nat) (0 : Nat) (0 : Nat) ∧ (best a (8 : Nat)).fst = (best a (8 : Nat)).fst ∧ (best a (8 : Nat)).snd = (best a (8 : Nat)).snd ∧ prT a (best a (8 : Nat)).fst (best a (8 : Nat)).snd x.i ++ { data := #[(58 : UInt8), (58 : UInt8)] : ByteArray } = prT a (best a (8 : Nat)).fst (best a (8 : Nat)).snd x'.i ∧ (↑x.i : Int) + ((best a (8 : Nat)).snd - (1 : Int)) + (1 : Int) = (↑x'.i : Int) ∧ (prV_a a) ∧ (prV_b a) ∧ True) ∧ (((↑x.i : Int) == (best a (8 : Nat)).fst) = false → ((!decide (prT a (best a (8 : Nat)).fst (best a (8 : Nat)).snd x.i = { data := #[] : ByteArray })) = true → (prT a (best a (8 : Nat)).fst (best a (8 : Nat)).snd x.i).size ≤ (1000000000 : Nat)) ∧ ((!decide (prT a (best a (8 : Nat)).fst (best a (8 : Nat)).snd x.i = { data := #[] : ByteArray }) && !hasSufB (prT a (best a (8 : Nat)).fst (best a (8 : Nat)).snd x.i) { data := #[(58 : UInt8)] : ByteArray }) = true → (prT a (best a (8 : Nat)).fst (best a (8 : Nat)).snd x.i).size + (1 : Nat) ≤ (9223372036854775807 : Nat) ∧ (0 : Int) ≤ (↑x.i : Int) ∧ (↑x.i : Int) < (↑(8 : Nat) : Int) ∧ (↑x.i : Int).toNat < [gp a (0 : Nat), gp a (1 : Nat), gp a (2 : Nat), gp a (3 : Nat), gp a (4 : Nat), gp a (5 : Nat), gp a (6 : Nat), gp a (7 : Nat)].length ∧ (0 : Int) ≤ [gp a (0 : Nat), gp a (1 : Nat), gp a (2 : Nat), gp a (3 : Nat), gp a (4 : Nat), gp a (5 : Nat), gp a (6 : Nat), gp a (7 : Nat)].getD (↑x.i : Int).toNat (0 : Int) ∧ [gp a (0 : Nat), gp a (1 : Nat), gp a (2 : Nat), gp a (3 : Nat), gp a (4 : Nat), gp a (5 : Nat), gp a (6 : Nat), gp a (7 : Nat)].getD (↑x.i : Int).toNat (0 : Int) < (65536 : Int) ∧ (16 : Int) = (16 : Int) ∧ (prT a (best a (8 : Nat)).fst (best a (8 : Nat)).snd x.i ++ { data := #[(58 : UInt8)] : ByteArray }).size + (hexB (prV_v a x).toNat).size ≤ (9223372036854775807 : Nat) ∧ in64 ((↑x.i : Int) + (1 : Int)) ∧ ∃ (x' : (prK a).σ), (x'.i ≤ (8 : Nat) ∧ ((↑x'.i : Int) ≤ (best a (8 : Nat)).fst ∨ (best a (8 : Nat)).fst + (best a (8 : Nat)).snd ≤ (↑x'.i : Int))) ∧ (8 : Nat) - x'.i < (8 : Nat) - x.i ∧ true = true ∧ XV.ptr (0 : Nat) (0 : Nat) (0 : Nat) (0 : Nat) = XV.ptr (0 : Nat) (0 : Nat) (0 : Nat) (0 : Nat) ∧ { data := #[] : ByteArray } = { data := #[] : ByteArray } ∧ XV.ptr (1 : Nat) (0 : Nat) (0 : Nat) (0 : Nat) = XV.ptr (1 : Nat) (0 : Nat) (0 : Nat) (0 : Nat) ∧ (best a (8 : Nat)).fst = (best a (8 : Nat)).fst ∧ (best a (8 : Nat)).snd = (best a (8 : Nat)).snd ∧ prT a (best a (8 : Nat)).fst (best a (8 : Nat)).snd x.i ++ { data := #[(58 : UInt8)] : ByteArray } ++ hexB (prV_v a x).toNat = prT a (best a (8 : Nat)).fst (best a (8 : Nat)).snd x'.i ∧ (↑x.i : Int) + (1 : Int) = (↑x'.i : Int) ∧ (prV_a a) ∧ (prV_b a) ∧ True) ∧ ((!decide (prT a (best a (8 : Nat)).fst (best a (8 : Nat)).snd x.i = { data := #[] : ByteArray }) && !hasSufB (prT a (best a (8 : Nat)).fst (best a (8 : Nat)).snd x.i) { data := #[(58 : UInt8)] : ByteArray }) = false → (0 : Int) ≤ (↑x.i : Int) ∧ (↑x.i : Int) < (↑(8 : Nat) : Int) ∧ (↑x.i : Int).toNat < [gp a (0 : Nat), gp a (1 : Nat), gp a (2 : Nat), gp a (3 : Nat), gp a (4 : Nat), gp a (5 : Nat), gp a (6 : Nat), gp a (7 : Nat)].length ∧ (0 : Int) ≤ [gp a (0 : Nat), gp a (1 : Nat), gp a (2 : Nat), gp a (3 : Nat), gp a (4 : Nat), gp a (5 : Nat), gp a (6 : Nat), gp a (7 : Nat)].getD (↑x.i : Int).toNat (0 : Int) ∧ [gp a (0 : Nat), gp a (1 : Nat), gp a (2 : Nat), gp a (3 : Nat), gp a (4 : Nat), gp a (5 : Nat), gp a (6 : Nat), gp a (7 : Nat)].getD (↑x.i : Int).toNat (0 : Int) < (65536 : Int) ∧ (16 : Int) = (16 : Int) ∧ (prT a (best a (8 : Nat)).fst (best a (8 : Nat)).snd x.i).size + (hexB (prV_v a x).toNat).size ≤ (9223372036854775807 : Nat) ∧ in64 ((↑x.i : Int) + (1 : Int)) ∧ ∃ (x' : (prK a).σ), (x'.i ≤ (8 : Nat) ∧ ((↑x'.i : Int) ≤ (best a (8 : Nat)).fst ∨ (best a (8 : Nat)).fst + (best a (8 : Nat)).snd ≤ (↑x'.i : Int))) ∧ (8 : Nat) - x'.i < (8 : Nat) - x.i ∧ true = true ∧ XV.ptr (0 : Nat) (0 : Nat) (0 : Nat) (0 : Nat) = XV.ptr (0 : Nat) (0 : Nat) (0 : Nat) (0 : Nat) ∧ { data := #[] : ByteArray } = { data := #[] : ByteArray } ∧ XV.ptr (1 : Nat) (0 : Nat) (0 : Nat) (0 : Nat) = XV.ptr (1 : Nat) (0 : Nat) (0 : Nat) (0 : Nat) ∧ (best a (8 : Nat)).fst = (best a (8 : Nat)).fst ∧ (best a (8 : Nat)).snd = (best a (8 : Nat)).snd ∧ prT a (best a (8 : Nat)).fst (best a (8 : Nat)).snd x.i ++ hexB (prV_v a x).toNat = prT a (best a (8 : Nat)).fst (best a (8 : Nat)).snd x'.i ∧ (↑x.i : Int) + (1 : Int) = (↑x'.i : Int) ∧ (prV_a a) ∧ (prV_b a) ∧ True))) ∧ (decide ((↑x.i : Int) < (8 : Int)) = false → prT a (best a (8 : Nat)).fst (best a (8 : Nat)).snd x.i = prn a)))
theorem prV_eq (a : Nat → Int) : prV a = (funC cxp Tryz.f28 (mkSc (prE a) (bodyOf Tryz.f28)) [adr a] (XT (prn a))) := by kernel_rfl
theorem g16b (a : Nat → Int) (h : ∀ k, k < 16 → 0 ≤ a k ∧ a k ≤ 255) (k : Nat) : 0 ≤ [a 0, a 1, a 2, a 3, a 4, a 5, a 6, a 7, a 8, a 9, a 10, a 11, a 12, a 13, a 14, a 15].getD k 0 ∧ [a 0, a 1, a 2, a 3, a 4, a 5, a 6, a 7, a 8, a 9, a 10, a 11, a 12, a 13, a 14, a 15].getD k 0 ≤ 255 := by
 by_cases hk : k < 16
 ·rw [get16 a k hk]; exact h k hk
 ·rw [List.getD_eq_getElem?_getD, List.getElem?_eq_none (by show 16 ≤ k; omega)]; exact ⟨Int.le_refl 0, by decide⟩
theorem gp_bits (x y : Int) (hx : 0 ≤ x ∧ x ≤ 255) (hy : 0 ≤ y ∧ y ≤ 255) : bits .or .i64 (IntKind.i64.wrap (x * 2 ^ 8)) y = x * 256 + y := by
 have hw : ∀ n : Int, 0 ≤ n → n < 2 ^ 63 → IntKind.i64.wrap n = n := fun n h0 h1 => by
  have e : n % 2 ^ 64 = n := Int.emod_eq_of_lt h0 (by omega)
  simp only [IntKind.wrap, IntKind.bits, IntKind.signed, e]
  rw [if_neg]
  simp
  omega
 rw [hw _ (by omega) (by omega)]
 rw [bits_join .i64 63 (by decide) hw 8 _ _ (by omega) (by omega) (by omega) (by omega) (by omega) (by omega)]
 omega
theorem in64_b {x : Int} (h : 0 ≤ x ∧ x ≤ 255) : in64 x := by unfold in64; omega
theorem itoaB_byte : ∀ x : Fin 256, (itoaB (x.val : Int)).size ≤ 3 := by decide +kernel
theorem prF_size (a : Nat → Int) (ha : ∀ k, k < 16 → 0 ≤ a k ∧ a k ≤ 255) (j : Nat) (hj : j < 4) : (prF a j).size ≤ 1000000 := by
 have h := ha (12 + j) (by omega)
 have := itoaB_byte ⟨(a (12 + j)).toNat, by omega⟩
 rw [show (((⟨(a (12 + j)).toNat, by omega⟩ : Fin 256).val : Nat) : Int) = a (12 + j) by show (((a (12 + j)).toNat : Nat) : Int) = _; omega] at this
 exact Nat.le_trans this (by omega)
theorem gp_b (a : Nat → Int) (ha : ∀ k, k < 16 → 0 ≤ a k ∧ a k ≤ 255) (j : Nat) (hj : j < 8) : 0 ≤ gp a j ∧ gp a j < 65536 := by
 have h1 := ha (2 * j) (by omega)
 have h2 := ha (2 * j + 1) (by omega)
 unfold gp
 omega
theorem get8 (g : Nat → Int) : ∀ j, j < 8 → [g 0, g 1, g 2, g 3, g 4, g 5, g 6, g 7].getD j 0 = g j
 | 0, _ => rfl | 1, _ => rfl | 2, _ => rfl | 3, _ => rfl | 4, _ => rfl | 5, _ => rfl | 6, _ => rfl | 7, _ => rfl
 | n + 8, h => absurd h (by omega)
theorem zrun_eq (a : Nat → Int) : ∀ (k f i : Nat), (∀ j, j < k → gp a (i + j) = 0) → i + k ≤ 8 → (i + k = 8 ∨ gp a (i + k) ≠ 0) → k < f → zrun a f i = k
 | _, 0, _, _, _, _, h => absurd h (by omega)
 | 0, f + 1, i, _, h8, he, _ => by
  rw [zrun, if_neg]
  rintro ⟨h1, h2⟩
  rcases he with he | he
  ·omega
  ·exact he h2
 | k + 1, f + 1, i, hz, h8, he, hf => by
  rw [zrun, if_pos ⟨by omega, hz 0 (by omega)⟩, zrun_eq a k f (i + 1) (fun j hj => by rw [show i + 1 + j = i + (j + 1) by omega]; exact hz (j + 1) (by omega)) (by omega) (by rw [show i + 1 + k = i + (k + 1) by omega]; exact he) (by omega)]
theorem zrun_z (a : Nat → Int) : ∀ (f i : Nat), (∀ j, j < zrun a f i → gp a (i + j) = 0) ∧ (zrun a f i = 0 ∨ i + zrun a f i ≤ 8)
 | 0, i => ⟨fun j hj => absurd hj (by rw [zrun]; omega), .inl rfl⟩
 | f + 1, i => by
  by_cases h : i < 8 ∧ gp a i = 0
  ·have ih := zrun_z a f (i + 1)
   rw [zrun, if_pos h]
   refine ⟨fun j hj => ?_, .inr ?_⟩
   ·cases j with
    | zero => exact h.2
    | succ j => rw [show i + (j + 1) = i + 1 + j by omega]; exact ih.1 j (by omega)
   ·rcases ih.2 with ih | ih <;> omega
  ·rw [zrun, if_neg h]
   exact ⟨fun j hj => absurd hj (by omega), .inl rfl⟩
theorem best_i (a : Nat → Int) : ∀ n, ((best a n).1 = -1 ∧ (best a n).2 = 1) ∨ ((0 ≤ (best a n).1 ∧ (best a n).1 < n) ∧ (best a n).1 + (best a n).2 ≤ 8 ∧ 2 ≤ (best a n).2)
 | 0 => .inl ⟨rfl, rfl⟩
 | n + 1 => by
  have ih := best_i a n
  rw [best]
  split
  ·rename_i h
   have hz := (zrun_z a 9 n).2
   right
   refine ⟨⟨by show (0 : Int) ≤ n; omega, by show (n : Int) < ((n + 1 : Nat) : Int); omega⟩, ?_, ?_⟩
   ·show (n : Int) + (zrun a 9 n : Int) ≤ 8
    rcases hz with hz | hz <;> omega
   ·show (2 : Int) ≤ (zrun a 9 n : Int)
    rcases ih with ih | ih <;> omega
  ·rcases ih with ih | ih
   ·exact .inl ih
   ·exact .inr ⟨⟨ih.1.1, by omega⟩, ih.2⟩
theorem hexB_size (n : Nat) : (hexB n).size ≤ 4 := by
 show (hexL n).length ≤ 4
 unfold hexL
 split
 ·show 1 ≤ 4; omega
 ·split
  ·show 2 ≤ 4; omega
  ·split
   ·show 3 ≤ 4; omega
   ·show 4 ≤ 4; omega
theorem prT_size (a : Nat → Int) (b r : Int) : ∀ k, (prT a b r k).size ≤ 8 * k
 | 0 => Nat.le_refl _
 | k + 1 => by
  have ih := prT_size a b r k
  have hh := hexB_size (gp a k).toNat
  rw [prT]
  split
  ·split
   ·rw [ByteArray.size_append]
    show _ + 2 ≤ _
    omega
   ·omega
  ·rw [ByteArray.size_append]
   split
   ·rw [ByteArray.size_append]
    show _ + 1 + _ ≤ _
    omega
   ·omega
theorem prT_in (a : Nat → Int) (b r : Nat) : ∀ n, n < r → prT a b r (b + n + 1) = prT a b r b ++ ⟨#[58, 58]⟩
 | 0, h => by rw [Nat.add_zero, prT, if_pos ⟨by omega, by omega⟩, if_pos rfl]
 | n + 1, h => by
  rw [prT, if_pos ⟨by omega, by omega⟩, if_neg (by omega)]
  exact prT_in a b r n (by omega)
theorem prT_out (a : Nat → Int) (b r : Int) (k : Nat) (h : (k : Int) < b ∨ b + r ≤ k) : prT a b r (k + 1) = (if prT a b r k ≠ ⟨#[]⟩ ∧ hasSufB (prT a b r k) ⟨#[58]⟩ = false then prT a b r k ++ ⟨#[58]⟩ else prT a b r k) ++ hexB (gp a k).toNat := by
 rw [prT, if_neg (by omega)]
theorem pr_v (a : Nat → Int) (ha : ∀ k, k < 16 → 0 ≤ a k ∧ a k ≤ 255) : prV a := by
 have hb := g16b a ha
 unfold prV prV_y prV_x prV_w prV_v prV_u prV_t prV_s prV_r prV_q prV_p prV_o prV_n prV_m prV_l prV_k prV_j prV_i prV_h prV_g prV_f prV_e prV_d prV_c prV_b prV_a
 refine ⟨fun h => ⟨?_, ?_⟩, fun h => ⟨?_, ?_⟩⟩
 ·have h4 : is4 a = true := h
  and_intros
  any_goals first | with_reducible rfl | trivial | omega | exact (hb _).1 | exact Int.le_trans (hb _).2 (by decide) | exact Int.le_trans (by decide) (hb _).1 | (simp only [List.length_cons, List.length_nil]; omega)
  refine ⟨⟨()⟩, h4, rfl, rfl, rfl, rfl, ?_, ?_, trivial⟩
  ·and_intros <;> first | with_reducible rfl | trivial
  ·refine ⟨by and_intros <;> rfl, rfl, fun j hj => ?_⟩
   match j, hj with
   | 0, _ => rfl
   | 1, _ => rfl
   | 2, _ => rfl
   | 3, _ => rfl
 ·rintro ⟨_⟩ h4
  have h4 : is4 a = true := h4
  refine ⟨rfl, fun _ _ => rfl, by omega, fun i hi => prF_size a ha i hi, by omega, ?_⟩
  unfold prn
  rw [if_pos h4]
  rfl
 ·and_intros
  any_goals first | with_reducible rfl | trivial | omega | exact (hb _).1 | exact Int.le_trans (hb _).2 (by decide) | exact Int.le_trans (by decide) (hb _).1 | (simp only [List.length_cons, List.length_nil]; omega)
  refine ⟨⟨()⟩, trivial, rfl, rfl, rfl, rfl, ?_, ⟨⟨rfl, rfl⟩, ?_⟩, trivial⟩
  ·and_intros <;> first | with_reducible rfl | trivial
  ·and_intros <;> first | exact gp_bits _ _ (hb _) (hb _) | trivial
 ·rintro ⟨_⟩ _
  refine ⟨⟨⟨0⟩, Nat.zero_le _, rfl, rfl, rfl, rfl, rfl, rfl, rfl, ?_, ?_, trivial⟩, ?_⟩
  ·and_intros <;> first | with_reducible rfl | trivial
  ·and_intros <;> first | with_reducible rfl | trivial
  rintro ⟨i⟩ hi
  have hi : i ≤ 8 := hi
  refine ⟨fun h1 => ?_, fun h1 => ?_⟩
  ·have h1 : (i : Int) < 8 := of_decide_eq_true h1
   have hil : i < 8 := by omega
   refine ⟨⟨i⟩, ⟨⟨0⟩, ⟨hi, fun j hj => absurd hj (by show ¬ j < 0; omega)⟩, rfl, rfl, rfl, rfl, rfl, rfl, rfl, rfl, rfl, ?_, ?_, trivial⟩, ?_⟩
   ·and_intros <;> first | with_reducible rfl | trivial
   ·and_intros <;> first | with_reducible rfl | trivial
   rintro ⟨k⟩ ⟨hk, hz⟩
   have hk : i + k ≤ 8 := hk
   have hz : ∀ j, j < k → gp a (i + j) = 0 := hz
   have e : ((i : Int) + (k : Int)).toNat = i + k := by omega
   refine ⟨by unfold in64; dsimp only; omega, fun _ => by unfold in64; dsimp only; omega, fun _ => by dsimp only; omega, fun h2 => of_decide_eq_true h2, fun h2 => ?_, fun h2 => ?_, fun h2 => ?_⟩
   ·have h2 : (i : Int) + k < 8 := of_decide_eq_true h2
    show ((i : Int) + (k : Int)).toNat < 8
    omega
   ·dsimp only at h2
    rw [Bool.and_eq_true] at h2
    obtain ⟨h2, h3⟩ := h2
    have h2 : (i : Int) + k < 8 := of_decide_eq_true h2
    rw [e, get8 (gp a) _ (by omega), beq_iff_eq] at h3
    refine ⟨by unfold in64; dsimp only; omega, ⟨k + 1⟩, ⟨by show i + (k + 1) ≤ 8; omega, fun j hj => ?_⟩, by show 8 - (k + 1) < 8 - k; omega, rfl, rfl, rfl, rfl, rfl, rfl, rfl, rfl, rfl, ?_, ?_, trivial⟩
    ·have hj : j < k + 1 := hj
     by_cases hjk : j = k
     ·rw [hjk]; exact h3
     ·exact hz j (by omega)
    ·and_intros <;> first | with_reducible rfl | trivial
    ·and_intros <;> first | with_reducible rfl | trivial
   ·dsimp only at h2
    have hr : zrun a 9 i = k := by
     refine zrun_eq a k 9 i hz hk ?_ (by omega)
     by_cases h8 : i + k = 8
     ·exact .inl h8
     ·right
      intro h3
      rw [e, get8 (gp a) _ (by omega), h3] at h2
      rw [decide_eq_true (by omega : (i : Int) + k < 8)] at h2
      exact Bool.noConfusion h2
    have hbs : best a (i + 1) = if (best a i).2 < (k : Int) then ((i : Int), (k : Int)) else best a i := by rw [best, hr]
    refine ⟨fun h3 => ?_, fun h3 => ?_⟩
    ·have h3 : (best a i).2 < (k : Int) := of_decide_eq_true h3
     rw [if_pos h3] at hbs
     refine ⟨by unfold in64; dsimp only; omega, ⟨i + 1⟩, (by show i + 1 ≤ 8; omega), by show 8 - (i + 1) < 8 - i; omega, rfl, rfl, rfl, rfl, by rw [hbs], by rw [hbs], rfl, ?_, ?_, trivial⟩
     ·and_intros <;> first | with_reducible rfl | trivial
     ·and_intros <;> first | with_reducible rfl | trivial
    ·have h3 : ¬ (best a i).2 < (k : Int) := of_decide_eq_false h3
     rw [if_neg h3] at hbs
     refine ⟨by unfold in64; dsimp only; omega, ⟨i + 1⟩, (by show i + 1 ≤ 8; omega), by show 8 - (i + 1) < 8 - i; omega, rfl, rfl, rfl, rfl, by rw [hbs], by rw [hbs], rfl, ?_, ?_, trivial⟩
     ·and_intros <;> first | with_reducible rfl | trivial
     ·and_intros <;> first | with_reducible rfl | trivial
  ·have h1 : ¬ (i : Int) < 8 := of_decide_eq_false h1
   obtain rfl : i = 8 := by omega
   have hbi := best_i a 8
   refine ⟨⟨⟨0⟩, ⟨Nat.zero_le _, ?_⟩, rfl, rfl, rfl, rfl, rfl, rfl, rfl, rfl, ?_, ?_, trivial⟩, ?_⟩
   ·show ((0 : Nat) : Int) ≤ _ ∨ _ ≤ ((0 : Nat) : Int)
    omega
   ·and_intros <;> first | with_reducible rfl | trivial
   ·and_intros <;> first | with_reducible rfl | trivial
   rintro ⟨i⟩ ⟨hi, hib⟩
   have hi : i ≤ 8 := hi
   have hib : (i : Int) ≤ (best a 8).1 ∨ (best a 8).1 + (best a 8).2 ≤ (i : Int) := hib
   have hps := prT_size a (best a 8).1 (best a 8).2 i
   refine ⟨fun h2 => ?_, fun h2 => ?_⟩
   ·have h2 : (i : Int) < 8 := of_decide_eq_true h2
    refine ⟨fun h3 => ?_, fun h3 => ?_⟩
    ·have h3 : (i : Int) = (best a 8).1 := beq_iff_eq.mp h3
     obtain ⟨r, hr⟩ : ∃ r : Nat, (best a 8).2 = (r : Int) + 1 := ⟨((best a 8).2 - 1).toNat, by omega⟩
     refine ⟨by dsimp only; omega, by unfold in64; omega, by unfold in64; dsimp only; omega, by unfold in64; dsimp only; omega, ⟨i + r + 1⟩, ⟨by show i + r + 1 ≤ 8; omega, .inr (by show _ ≤ ((i + r + 1 : Nat) : Int); omega)⟩, by show 8 - (i + r + 1) < 8 - i; omega, rfl, rfl, rfl, rfl, rfl, rfl, ?_, by show (i : Int) + ((best a 8).2 - 1) + 1 = ((i + r + 1 : Nat) : Int); omega, ?_, ?_, trivial⟩
     ·rw [← h3, hr]
      exact (prT_in a i (r + 1) r (by omega)).symm
     ·and_intros <;> first | with_reducible rfl | trivial
     ·and_intros <;> first | with_reducible rfl | trivial
    ·have h3 : ¬ (i : Int) = (best a 8).1 := fun e => by rw [beq_iff_eq.mpr e] at h3; cases h3
     have e : (i : Int).toNat = i := by omega
     have hg := get8 (gp a) i (by omega)
     have hgb := gp_b a ha i (by omega)
     have hh := hexB_size (gp a i).toNat
     have hpo := prT_out a (best a 8).1 (best a 8).2 i (by omega)
     dsimp only
     rw [e, hg]
     refine ⟨fun _ => by omega, fun h4 => ?_, fun h4 => ?_⟩
     ·rw [Bool.and_eq_true, Bool.not_eq_true', Bool.not_eq_true', decide_eq_false_iff_not] at h4
      rw [if_pos h4] at hpo
      refine ⟨by omega, by omega, by omega, by show i < 8; omega, hgb.1, hgb.2, rfl, by rw [ByteArray.size_append]; show _ + 1 + _ ≤ _; omega, by unfold in64; omega, ⟨i + 1⟩, ⟨by show i + 1 ≤ 8; omega, by show ((i + 1 : Nat) : Int) ≤ _ ∨ _ ≤ ((i + 1 : Nat) : Int); omega⟩, by show 8 - (i + 1) < 8 - i; omega, rfl, rfl, rfl, rfl, rfl, rfl, hpo.symm, rfl, ?_, ?_, trivial⟩
      ·and_intros <;> first | with_reducible rfl | trivial
      ·and_intros <;> first | with_reducible rfl | trivial
     ·have h4 : ¬ (prT a (best a 8).1 (best a 8).2 i ≠ ⟨#[]⟩ ∧ hasSufB (prT a (best a 8).1 (best a 8).2 i) ⟨#[58]⟩ = false) := fun ⟨h5, h6⟩ => by
       rw [decide_eq_false h5, h6] at h4
       cases h4
      rw [if_neg h4] at hpo
      refine ⟨by omega, by omega, by show i < 8; omega, hgb.1, hgb.2, rfl, by omega, by unfold in64; omega, ⟨i + 1⟩, ⟨by show i + 1 ≤ 8; omega, by show ((i + 1 : Nat) : Int) ≤ _ ∨ _ ≤ ((i + 1 : Nat) : Int); omega⟩, by show 8 - (i + 1) < 8 - i; omega, rfl, rfl, rfl, rfl, rfl, rfl, hpo.symm, rfl, ?_, ?_, trivial⟩
      ·and_intros <;> first | with_reducible rfl | trivial
      ·and_intros <;> first | with_reducible rfl | trivial
   ·have h2 : ¬ (i : Int) < 8 := of_decide_eq_false h2
    obtain rfl : i = 8 := by omega
    show prT a (best a 8).1 (best a 8).2 8 = prn a
    have h4 : ¬ is4 a = true := fun e => by
     have h : is4 a = false := h
     rw [e] at h
     cases h
    unfold prn
    rw [if_neg h4]
end Go.Proofs.YtkjcoehblekpdaaGreatDoorAv
namespace Go.Proofs.YtkjcoehblekpdaaGreatDoorAv
open Go Go.RowKit
def b16 (g : Nat → Int) : Prop := ∀ k, k < 16 → 0 ≤ g k ∧ g k ≤ 255
def prnC : CT := C1 dAL (fun g => [b16 g]) fun g => XT (prn g)
theorem pr_ok : CTok Tryz.prog 28 prnC := C1_ok cxp_ok Tryz.func28 rfl (by decide) dAL_eq.ok (by kernel_rfl) (fun _ => rfl) fun g hc => exv (prV_eq g) (pr_v g (hc (b16 g) (.head _)))
def foC : CT := C1 dStr (fun s => [s.size ≤ 1000000]) fun s => .tup [adr (four s).1, XB (four s).2]
def siC : CT := C1 dStr (fun s => [s.size ≤ 1000000]) fun s => .tup [adr (six s).1, XB (six s).2]
def cxq : Cx := { cx0 with C := [(33, foC), (34, siC), (28, prnC)] }
theorem cxq_ok : cxq.ok Tryz.prog := ((cx0_ok.addC pr_ok).addC si_ok).addC fo_ok
def parB (s : ByteArray) : Nat → Int := if (four s).2 = true then (four s).1 else (six s).1
def parOk (s : ByteArray) : Bool := ((four s).2 || (six s).2) && decide (prn (parB s) = s)
def parA (s : ByteArray) : Nat → Int := if parOk s = true then parB s else zeroA
def parN (s : ByteArray) : Int := if parOk s = true then 0 else 5
def paV_a (s : ByteArray) :=
 ((0 : Int) = parA s 0 ∧ (0 : Int) = parA s 1 ∧ (0 : Int) = parA s 2 ∧ (0 : Int) = parA s 3 ∧ (0 : Int) = parA s 4 ∧ (0 : Int) = parA s 5 ∧ (0 : Int) = parA s 6 ∧ (0 : Int) = parA s 7 ∧ (0 : Int) = parA s 8 ∧ (0 : Int) = parA s 9 ∧ (0 : Int) = parA s 10 ∧ (0 : Int) = parA s 11 ∧ (0 : Int) = parA s 12 ∧ (0 : Int) = parA s 13 ∧ (0 : Int) = parA s 14 ∧ (0 : Int) = parA s 15 ∧ True)
def paV_b (s : ByteArray) :=
 (!(four s).snd || !decide ((prn fun (i : Nat) => [(four s).fst 0, (four s).fst 1, (four s).fst 2, (four s).fst 3, (four s).fst 4, (four s).fst 5, (four s).fst 6, (four s).fst 7, (four s).fst 8, (four s).fst 9, (four s).fst 10, (four s).fst 11, (four s).fst 12, (four s).fst 13, (four s).fst 14, (four s).fst 15].getD i 0) = s))
def paV_c (s : ByteArray) :=
 (!(six s).snd || !decide ((prn fun (i : Nat) => [(six s).fst 0, (six s).fst 1, (six s).fst 2, (six s).fst 3, (six s).fst 4, (six s).fst 5, (six s).fst 6, (six s).fst 7, (six s).fst 8, (six s).fst 9, (six s).fst 10, (six s).fst 11, (six s).fst 12, (six s).fst 13, (six s).fst 14, (six s).fst 15].getD i 0) = s))
def paV (s : ByteArray) : Prop :=
 s.size ≤ (1000000 : Nat) ∧ ((!(four s).snd) = true → s.size ≤ (1000000 : Nat) ∧ ((!!(six s).snd) = true → b16 fun (i : Nat) => [(six s).fst 0, (six s).fst 1, (six s).fst 2, (six s).fst 3, (six s).fst 4, (six s).fst 5, (six s).fst 6, (six s).fst 7, (six s).fst 8, (six s).fst 9, (six s).fst 10, (six s).fst 11, (six s).fst 12, (six s).fst 13, (six s).fst 14, (six s).fst 15].getD i 0) ∧ ((paV_c s) = true → (paV_a s) ∧ (5 : Int) = parN s ∧ True) ∧ ((paV_c s) = false → ((six s).fst 0 = parA s 0 ∧ (six s).fst 1 = parA s 1 ∧ (six s).fst 2 = parA s 2 ∧ (six s).fst 3 = parA s 3 ∧ (six s).fst 4 = parA s 4 ∧ (six s).fst 5 = parA s 5 ∧ (six s).fst 6 = parA s 6 ∧ (six s).fst 7 = parA s 7 ∧ (six s).fst 8 = parA s 8 ∧ (six s).fst 9 = parA s 9 ∧ (six s).fst 10 = parA s 10 ∧ (six s).fst 11 = parA s 11 ∧ (six s).fst 12 = parA s 12 ∧ (six s).fst 13 = parA s 13 ∧ (six s).fst 14 = parA s 14 ∧ (six s).fst 15 = parA s 15 ∧ True) ∧ (0 : Int) = parN s ∧ True)) ∧ ((!(four s).snd) = false → ((!!(four s).snd) = true → b16 fun (i : Nat) => [(four s).fst 0, (four s).fst 1, (four s).fst 2, (four s).fst 3, (four s).fst 4, (four s).fst 5, (four s).fst 6, (four s).fst 7, (four s).fst 8, (four s).fst 9, (four s).fst 10, (four s).fst 11, (four s).fst 12, (four s).fst 13, (four s).fst 14, (four s).fst 15].getD i 0) ∧ ((paV_b s) = true → (paV_a s) ∧ (5 : Int) = parN s ∧ True) ∧ ((paV_b s) = false → ((four s).fst 0 = parA s 0 ∧ (four s).fst 1 = parA s 1 ∧ (four s).fst 2 = parA s 2 ∧ (four s).fst 3 = parA s 3 ∧ (four s).fst 4 = parA s 4 ∧ (four s).fst 5 = parA s 5 ∧ (four s).fst 6 = parA s 6 ∧ (four s).fst 7 = parA s 7 ∧ (four s).fst 8 = parA s 8 ∧ (four s).fst 9 = parA s 9 ∧ (four s).fst 10 = parA s 10 ∧ (four s).fst 11 = parA s 11 ∧ (four s).fst 12 = parA s 12 ∧ (four s).fst 13 = parA s 13 ∧ (four s).fst 14 = parA s 14 ∧ (four s).fst 15 = parA s 15 ∧ True) ∧ (0 : Int) = parN s ∧ True))
theorem paV_eq (s : ByteArray) : paV s = (funC cxq Tryz.f23 .nil [XT s] (.tup [adr (parA s), XI (parN s)])) := by kernel_rfl
theorem wrap8 (n : Int) : 0 ≤ IntKind.u8.wrap n ∧ IntKind.u8.wrap n ≤ 255 := by
 have e : IntKind.u8.wrap n = n % 256 := by simp [IntKind.wrap, IntKind.bits, IntKind.signed]
 rw [e]
 omega
theorem zero_b : b16 zeroA := fun k _ => ⟨Int.le_refl 0, by show (0 : Int) ≤ 255; omega⟩
theorem fourF_b (l : List ByteArray) (i k : Nat) : 0 ≤ fourF l i k ∧ fourF l i k ≤ 255 := by
 unfold fourF
 split
 ·exact wrap8 _
 ·omega
theorem v4_b (a b c d : Int) (ha : 0 ≤ a ∧ a ≤ 255) (hb : 0 ≤ b ∧ b ≤ 255) (hc : 0 ≤ c ∧ c ≤ 255) (hd : 0 ≤ d ∧ d ≤ 255) : b16 (v4 a b c d) := fun k hk => by
 have h0 : (0 : Int) ≤ 0 ∧ (0 : Int) ≤ 255 := by omega
 have h1 : (0 : Int) ≤ 255 ∧ (255 : Int) ≤ 255 := by omega
 rcases k with _ | _ | _ | _ | _ | _ | _ | _ | _ | _ | _ | _ | _ | _ | _ | _ | k
 case zero => exact h0
 case succ.succ.succ.succ.succ.succ.succ.succ.succ.succ.succ.succ.succ.succ.succ.succ => exact absurd hk (by omega)
 all_goals first | exact h0 | exact h1 | exact ha | exact hb | exact hc | exact hd
theorem four_b (s : ByteArray) : b16 (four s).1 := by
 unfold four
 split
 ·exact v4_b _ _ _ _ (fourF_b _ _ _) (fourF_b _ _ _) (fourF_b _ _ _) (fourF_b _ _ _)
 ·exact zero_b
theorem sixA_b (p : LR) : ∀ i k, 0 ≤ sixA p i k ∧ sixA p i k ≤ 255
 | 0, k => ⟨Int.le_refl 0, by show (0 : Int) ≤ 255; omega⟩
 | i + 1, k => by
  rw [sixA]
  dsimp only
  split
  ·exact wrap8 _
  ·split
   ·exact wrap8 _
   ·exact sixA_b p i k
theorem six_b (s : ByteArray) : b16 (six s).1 := by
 unfold six
 split
 ·exact fun k _ => sixA_b _ _ k
 ·exact zero_b
theorem parB_b (s : ByteArray) : b16 (parB s) := by
 unfold parB
 split
 ·exact four_b s
 ·exact six_b s
theorem parA_b (s : ByteArray) : b16 (parA s) := by
 unfold parA
 split
 ·exact parB_b s
 ·exact zero_b
theorem gp_ext {a b : Nat → Int} (h : ∀ k, k < 16 → a k = b k) (j : Nat) (hj : j < 8) : gp a j = gp b j := by
 unfold gp
 rw [h _ (by omega), h _ (by omega)]
theorem zrun_ext {a b : Nat → Int} (h : ∀ k, k < 16 → a k = b k) : ∀ f i, zrun a f i = zrun b f i
 | 0, i => rfl
 | f + 1, i => by
  rw [zrun, zrun, zrun_ext h f (i + 1)]
  by_cases hi : i < 8
  ·rw [gp_ext h i hi]
  ·rw [if_neg (fun e => hi e.1), if_neg (fun e => hi e.1)]
theorem best_ext {a b : Nat → Int} (h : ∀ k, k < 16 → a k = b k) : ∀ n, best a n = best b n
 | 0 => rfl
 | n + 1 => by rw [best, best, best_ext h n, zrun_ext h]
theorem prT_ext {a b : Nat → Int} (h : ∀ k, k < 16 → a k = b k) (c r : Int) : ∀ n, n ≤ 8 → prT a c r n = prT b c r n
 | 0, _ => rfl
 | n + 1, hn => by rw [prT, prT, prT_ext h c r n (by omega), gp_ext h n (by omega)]
theorem is4_ext {a b : Nat → Int} (h : ∀ k, k < 16 → a k = b k) : is4 a = is4 b := by
 unfold is4
 rw [h 0 (by omega), h 1 (by omega), h 2 (by omega), h 3 (by omega), h 4 (by omega), h 5 (by omega), h 6 (by omega), h 7 (by omega), h 8 (by omega), h 9 (by omega), h 10 (by omega), h 11 (by omega)]
theorem prn_ext {a b : Nat → Int} (h : ∀ k, k < 16 → a k = b k) : prn a = prn b := by
 unfold prn
 rw [is4_ext h, best_ext h, prT_ext h _ _ 8 (Nat.le_refl _)]
 have e : (List.range 4).map (prF a) = (List.range 4).map (prF b) := by
  apply List.map_congr_left
  intro i hi
  have := List.mem_range.1 hi
  unfold prF
  rw [h _ (by omega)]
 rw [e]
theorem prn_l (g : Nat → Int) : (prn fun i => [g 0, g 1, g 2, g 3, g 4, g 5, g 6, g 7, g 8, g 9, g 10, g 11, g 12, g 13, g 14, g 15].getD i 0) = prn g := prn_ext fun k hk => get16 g k hk
theorem b16_l {g : Nat → Int} (h : b16 g) : b16 fun i => [g 0, g 1, g 2, g 3, g 4, g 5, g 6, g 7, g 8, g 9, g 10, g 11, g 12, g 13, g 14, g 15].getD i 0 := fun k hk => by
 dsimp only
 rw [get16 g k hk]
 exact h k hk
theorem pa_v (s : ByteArray) (hs : s.size ≤ 1000000) : paV s := by
 unfold paV paV_c paV_b paV_a
 rw [prn_l (six s).1, prn_l (four s).1]
 have key : ∀ g : Nat → Int, parB s = g → ∀ ok : Bool, ((four s).2 || (six s).2) = ok →
   ((!ok || !decide (prn g = s)) = true → parA s = zeroA ∧ parN s = 5) ∧ ((!ok || !decide (prn g = s)) = false → parA s = g ∧ parN s = 0) := fun g hg ok hok => by
  have e : (!ok || !decide (prn g = s)) = !parOk s := by
   unfold parOk
   rw [hg, hok]
   cases ok <;> cases decide (prn g = s) <;> rfl
  rw [e]
  unfold parA parN
  cases parOk s
  ·exact ⟨fun _ => ⟨rfl, rfl⟩, fun h => Bool.noConfusion h⟩
  ·exact ⟨fun h => Bool.noConfusion h, fun _ => ⟨hg, rfl⟩⟩
 refine ⟨hs, fun h => ⟨hs, fun _ => b16_l (six_b s), fun h2 => ?_, fun h2 => ?_⟩, fun h => ⟨fun _ => b16_l (four_b s), fun h2 => ?_, fun h2 => ?_⟩⟩
 ·have h : (four s).2 = false := by cases e : (four s).2 with | false => rfl | true => rw [e] at h; cases h
  obtain ⟨e1, e2⟩ := (key (six s).1 (if_neg (by rw [h]; decide)) (six s).2 (by rw [h]; rfl)).1 h2
  rw [e1, e2]
  and_intros <;> first | rfl | trivial
 ·have h : (four s).2 = false := by cases e : (four s).2 with | false => rfl | true => rw [e] at h; cases h
  obtain ⟨e1, e2⟩ := (key (six s).1 (if_neg (by rw [h]; decide)) (six s).2 (by rw [h]; rfl)).2 h2
  rw [e1, e2]
  and_intros <;> first | rfl | trivial
 ·have h : (four s).2 = true := by cases e : (four s).2 with | true => rfl | false => rw [e] at h; cases h
  obtain ⟨e1, e2⟩ := (key (four s).1 (if_pos h) (four s).2 (by rw [h]; rfl)).1 h2
  rw [e1, e2]
  and_intros <;> first | rfl | trivial
 ·have h : (four s).2 = true := by cases e : (four s).2 with | true => rfl | false => rw [e] at h; cases h
  obtain ⟨e1, e2⟩ := (key (four s).1 (if_pos h) (four s).2 (by rw [h]; rfl)).2 h2
  rw [e1, e2]
  and_intros <;> first | rfl | trivial
def parC : CT := C1 dStr (fun s => [s.size ≤ 1000000]) fun s => .tup [adr (parA s), XI (parN s)]
theorem pa_ok : CTok Tryz.prog 23 parC := C1_ok cxq_ok Tryz.func23 rfl (by decide) dStr_eq.ok (by kernel_rfl) (fun _ => rfl) fun s hc => exv (paV_eq s) (pa_v s (hc _ (by simp)))
end Go.Proofs.YtkjcoehblekpdaaGreatDoorAv
namespace Go.Proofs.YtkjcoehblekpdaaGreatDoorAv
open Go Go.RowKit
theorem app_dt (a b : ByteArray) : (a ++ b).data.toList = a.data.toList ++ b.data.toList := by
 rw [ByteArray.data_append, Array.toList_append]
end Go.Proofs.YtkjcoehblekpdaaGreatDoorAv
namespace Go.Proofs.YtkjcoehblekpdaaGreatDoorAv
open Go Go.RowKit
structure A16 where
 x0 : Int
 x1 : Int
 x2 : Int
 x3 : Int
 x4 : Int
 x5 : Int
 x6 : Int
 x7 : Int
 x8 : Int
 x9 : Int
 x10 : Int
 x11 : Int
 x12 : Int
 x13 : Int
 x14 : Int
 x15 : Int
def A16.f (a : A16) : Nat → Int := fun i => [a.x0, a.x1, a.x2, a.x3, a.x4, a.x5, a.x6, a.x7, a.x8, a.x9, a.x10, a.x11, a.x12, a.x13, a.x14, a.x15].getD i 0
def mk16 (g : Nat → Int) : A16 := ⟨g 0, g 1, g 2, g 3, g 4, g 5, g 6, g 7, g 8, g 9, g 10, g 11, g 12, g 13, g 14, g 15⟩
structure Hst where
 a : A16
 q : Sq ByteArray
def a16X (a : A16) : List XV := [X8 a.x0, X8 a.x1, X8 a.x2, X8 a.x3, X8 a.x4, X8 a.x5, X8 a.x6, X8 a.x7, X8 a.x8, X8 a.x9, X8 a.x10, X8 a.x11, X8 a.x12, X8 a.x13, X8 a.x14, X8 a.x15]
def hostX (h : Hst) : List XV := [X8 h.a.x0, X8 h.a.x1, X8 h.a.x2, X8 h.a.x3, X8 h.a.x4, X8 h.a.x5, X8 h.a.x6, X8 h.a.x7, X8 h.a.x8, X8 h.a.x9, X8 h.a.x10, X8 h.a.x11, X8 h.a.x12, X8 h.a.x13, X8 h.a.x14, X8 h.a.x15, .fz h.q.n 1 fun j => [XT (h.q.g j)]]
def dH : Hst := ⟨⟨0, 0, 0, 0, 0, 0, 0, 0, 0, 0, 0, 0, 0, 0, 0, 0⟩, ⟨0, fun _ => ⟨#[]⟩⟩⟩
def lenH (l : List Hst) : Nat := l.length
def getH (l : List Hst) (i : Nat) : Hst := l.getD i dH
def hostsL (l : List Hst) : XV := .fz (lenH l) 17 fun i => hostX (getH l i)
def oksN (w : List ByteArray) : Nat → Bool
 | 0 => true
 | i + 1 => oksN w i && decide ((toA (w.getD (i + 1) ⟨#[]⟩)).2 = 0)
def nmF (w : List ByteArray) (j : Nat) : ByteArray := (toA (w.getD (j + 1) ⟨#[]⟩)).1
def lnH (w : List ByteArray) : Hst := ⟨mk16 (parA (w.getD 0 ⟨#[]⟩)), ⟨w.length - 1, nmF w⟩⟩
def lnOk (w : List ByteArray) : Bool := decide (2 ≤ w.length) && (decide (parN (w.getD 0 ⟨#[]⟩) = 0) && oksN w (w.length - 1))
def putH (o : List Hst) (w : List ByteArray) : List Hst := if lenH o ≠ 64 ∧ lnOk w = true then o ++ [lnH w] else o
def prsN (l : List ByteArray) : Nat → List Hst
 | 0 => []
 | i + 1 => putH (prsN l i) (words (l.getD i ⟨#[]⟩))
def linesS (s : ByteArray) : List ByteArray := splitS s ⟨#[10]⟩
def prsH (s : ByteArray) : List Hst := prsN (linesS s) (linesS s).length
def wdN (l : List ByteArray) (i : Nat) : List ByteArray := words (l.getD i ⟨#[]⟩)
def cxy : Cx := { cx0 with C := [(21, splitC), (22, fieldsC), (23, parC), (24, toAC)] }
def prsR (l : List ByteArray) (i : Nat) : Nat × XRow := (0, .vec 30 true (lenH (prsN l i)) 17 fun j => hostX (getH (prsN l i) j))
def prsI (l : List ByteArray) : Inv where
 σ := IL
 S := fun x => ⟨[(3, .sl 0 17 0 (lenH (prsN l x.i))), (15, strsL l), (16, XI l.length), (17, XI x.i)], [prsR l x.i], 1, false, []⟩
 inv := fun x => x.i ≤ l.length
 μ := fun x => l.length - x.i
def prsJ (l : List ByteArray) (p : IL) : Inv where
 σ := IL
 S := fun x => ⟨[(3, .sl 0 17 0 (lenH (prsN l p.i))), (9, .ptr 2 0 0 0), (15, strsL l), (16, XI l.length), (17, XI p.i), (43, .fz ((wdN l p.i).length - 1) 1 fun j => [XT ((wdN l p.i).getD (j + 1) ⟨#[]⟩)]), (44, XI ((wdN l p.i).length - 1 : Nat)), (45, XI x.i)],
  [prsR l p.i, (2, .one 30 true (a16X (mk16 (parA ((wdN l p.i).getD 0 ⟨#[]⟩))) ++ [.sl 3 1 0 x.i])), (3, .vec 9 true x.i 1 fun j => [XT (nmF (wdN l p.i) j)])], 4, false, []⟩
 inv := fun x => x.i ≤ (wdN l p.i).length - 1 ∧ p.i < l.length ∧ lenH (prsN l p.i) ≠ 64 ∧ 2 ≤ (wdN l p.i).length ∧ parN ((wdN l p.i).getD 0 ⟨#[]⟩) = 0 ∧ oksN (wdN l p.i) x.i = true
 μ := fun x => (wdN l p.i).length - 1 - x.i
def prsE (s : ByteArray) : Env := { loops := [(0, prsI (linesS s))], loopsP := [(2, ⟨IL, prsJ (linesS s)⟩)], own := [(2, [(3, 30, 17)]), (10, [(9, 9, 1)])], frzc := [(17, [(9, 16)])] }
def prsV_a (s : ByteArray) :=
 (splitS s ⟨#[10]⟩)
def prsV_b (s : ByteArray) (p : { α := IL, J := prsJ (linesS s) : InvP }.α) :=
 ((wdN (prsV_a s) p.i).getD 0 ⟨#[]⟩)
def prsV_c (s : ByteArray) (x : IL) :=
 ((words ((prsV_a s).getD (↑x.i : Int).toNat ⟨#[]⟩)).getD ((0 : Nat)) ⟨#[]⟩)
def prsV_d (s : ByteArray) :=
 ((XV.fz (prsV_a s).length 1 fun (i : Nat) => [XT ((prsV_a s).getD i ⟨#[]⟩)]) = XV.fz (prsV_a s).length 1 fun (i : Nat) => [XT ((prsV_a s).getD i ⟨#[]⟩)])
def prsV_e (s : ByteArray) (x : IL) :=
 (↑(words ((prsV_a s).getD (↑x.i : Int).toNat ⟨#[]⟩)).length : Int)
def prsV_f :=
 ((30 : TypeId) = (30 : TypeId) ∧ true = true ∧ (17 : Nat) = (17 : Nat))
def prsV (s : ByteArray) : Prop :=
 s.size < (4294967281 : Nat) ∧ (1 : Nat) ≤ (1 : Nat) ∧ (∃ (x : (prsI (linesS s)).σ), x.i.le (prsV_a s).length ∧ true = true ∧ XV.sl 0 17 0 0 = XV.sl 0 17 0 (lenH (prsN (prsV_a s) x.i)) ∧ (prsV_d s) ∧ (↑(prsV_a s).length : Int) = (↑(prsV_a s).length : Int) ∧ (0 : Int) = (↑x.i : Int) ∧ (((30 : Nat) = (30 : TypeId) ∧ true = true ∧ (17 : Nat) = (17 : Nat)) ∧ (0 : Nat) = lenH (prsN (prsV_a s) x.i) ∧ ∀ (j : Nat), j < (0 : Nat) → [] = (hostX (getH (prsN (prsV_a s) x.i) j))) ∧ True) ∧ ∀ (x : IL), x.i.le (prsV_a s).length → (decide ((↑x.i : Int) < (↑(prsV_a s).length : Int)) = true → (0 : Int) ≤ (↑x.i : Int) ∧ (↑x.i : Int) < (↑(prsV_a s).length : Int) ∧ ((prsV_a s).getD (↑x.i : Int).toNat ⟨#[]⟩).size ≤ (1000000 : Nat) ∧ ((decide ((prsV_e s x) < (2 : Int)) || (↑(lenH (prsN (prsV_a s) x.i)) : Int) == (64 : Int)) = true → in64 ((↑x.i : Int) + (1 : Int)) ∧ ∃ (x' : (prsI (linesS s)).σ), x'.i.le (prsV_a s).length ∧ (prsV_a s).length - x'.i < (prsV_a s).length - x.i ∧ true = true ∧ XV.sl 0 17 0 (lenH (prsN (prsV_a s) x.i)) = XV.sl 0 17 0 (lenH (prsN (prsV_a s) x'.i)) ∧ (prsV_d s) ∧ (↑(prsV_a s).length : Int) = (↑(prsV_a s).length : Int) ∧ (↑x.i : Int) + (1 : Int) = (↑x'.i : Int) ∧ (prsV_f ∧ lenH (prsN (prsV_a s) x.i) = lenH (prsN (prsV_a s) x'.i) ∧ ∀ (j : Nat), j < lenH (prsN (prsV_a s) x.i) → (hostX (getH (prsN (prsV_a s) x.i) j)) = (hostX (getH (prsN (prsV_a s) x'.i) j))) ∧ True) ∧ ((decide ((prsV_e s x) < (2 : Int)) || (↑(lenH (prsN (prsV_a s) x.i)) : Int) == (64 : Int)) = false → (0 : Int) ≤ (0 : Int) ∧ (0 : Int) < (prsV_e s x) ∧ (prsV_c s x).size ≤ (1000000 : Nat) ∧ ((parN (prsV_c s x) != (0 : Int)) = true → in64 ((↑x.i : Int) + (1 : Int)) ∧ ∃ (x' : (prsI (linesS s)).σ), x'.i.le (prsV_a s).length ∧ (prsV_a s).length - x'.i < (prsV_a s).length - x.i ∧ true = true ∧ XV.sl 0 17 0 (lenH (prsN (prsV_a s) x.i)) = XV.sl 0 17 0 (lenH (prsN (prsV_a s) x'.i)) ∧ (prsV_d s) ∧ (↑(prsV_a s).length : Int) = (↑(prsV_a s).length : Int) ∧ (↑x.i : Int) + (1 : Int) = (↑x'.i : Int) ∧ (prsV_f ∧ lenH (prsN (prsV_a s) x.i) = lenH (prsN (prsV_a s) x'.i) ∧ ∀ (j : Nat), j < lenH (prsN (prsV_a s) x.i) → (hostX (getH (prsN (prsV_a s) x.i) j)) = (hostX (getH (prsN (prsV_a s) x'.i) j))) ∧ True) ∧ ((parN (prsV_c s x) != (0 : Int)) = false → (0 : Int) ≤ (1 : Int) ∧ (1 : Int) ≤ (prsV_e s x) ∧ (prsV_e s x) ≤ (prsV_e s x) ∧ ∃ (p : { α := IL, J := prsJ (linesS s) : InvP }.α), (∃ (x_1 : ({ α := IL, J := prsJ (linesS s) : InvP }.J p).σ), (x_1.i ≤ (wdN (prsV_a s) p.i).length - (1 : Nat) ∧ p.i < (prsV_a s).length ∧ lenH (prsN (prsV_a s) p.i) ≠ (64 : Nat) ∧ (2 : Nat) ≤ (wdN (prsV_a s) p.i).length ∧ parN (prsV_b s p) = (0 : Int) ∧ oksN (wdN (prsV_a s) p.i) x_1.i = true) ∧ true = true ∧ XV.sl 0 17 0 (lenH (prsN (prsV_a s) x.i)) = XV.sl 0 17 0 (lenH (prsN (prsV_a s) p.i)) ∧ XV.ptr ((1 : Nat) + (1 : Nat)) 0 0 0 = XV.ptr 2 0 0 0 ∧ (prsV_d s) ∧ (↑(prsV_a s).length : Int) = (↑(prsV_a s).length : Int) ∧ (↑x.i : Int) = (↑p.i : Int) ∧ ((XV.fz ((prsV_e s x) - (1 : Int)).toNat 1 fun (j : Nat) => [XT ((words ((prsV_a s).getD (↑x.i : Int).toNat ⟨#[]⟩)).getD ((1 : Nat) + j) ⟨#[]⟩)]) = XV.fz ((wdN (prsV_a s) p.i).length - (1 : Nat)) 1 fun (j : Nat) => [XT ((wdN (prsV_a s) p.i).getD (j + (1 : Nat)) ⟨#[]⟩)]) ∧ (↑((prsV_e s x) - (1 : Int)).toNat : Int) = (↑((wdN (prsV_a s) p.i).length - (1 : Nat)) : Int) ∧ (0 : Int) = (↑x_1.i : Int) ∧ (prsV_f ∧ lenH (prsN (prsV_a s) x.i) = lenH (prsN (prsV_a s) p.i) ∧ ∀ (j : Nat), j < lenH (prsN (prsV_a s) x.i) → (hostX (getH (prsN (prsV_a s) x.i) j)) = (hostX (getH (prsN (prsV_a s) p.i) j))) ∧ (((30 : Nat) = (30 : TypeId) ∧ true = true) ∧ parA (prsV_c s x) 0 = parA (prsV_b s p) 0 ∧ parA (prsV_c s x) 1 = parA (prsV_b s p) 1 ∧ parA (prsV_c s x) 2 = parA (prsV_b s p) 2 ∧ parA (prsV_c s x) 3 = parA (prsV_b s p) 3 ∧ parA (prsV_c s x) 4 = parA (prsV_b s p) 4 ∧ parA (prsV_c s x) 5 = parA (prsV_b s p) 5 ∧ parA (prsV_c s x) 6 = parA (prsV_b s p) 6 ∧ parA (prsV_c s x) 7 = parA (prsV_b s p) 7 ∧ parA (prsV_c s x) 8 = parA (prsV_b s p) 8 ∧ parA (prsV_c s x) 9 = parA (prsV_b s p) 9 ∧ parA (prsV_c s x) 10 = parA (prsV_b s p) 10 ∧ parA (prsV_c s x) 11 = parA (prsV_b s p) 11 ∧ parA (prsV_c s x) 12 = parA (prsV_b s p) 12 ∧ parA (prsV_c s x) 13 = parA (prsV_b s p) 13 ∧ parA (prsV_c s x) 14 = parA (prsV_b s p) 14 ∧ parA (prsV_c s x) 15 = parA (prsV_b s p) 15 ∧ XV.sl ((1 : Nat) + (1 : Nat) + (1 : Nat)) 1 0 0 = XV.sl 3 1 0 x_1.i ∧ True) ∧ (((9 : Nat) = (9 : TypeId) ∧ true = true ∧ (1 : Nat) = (1 : Nat)) ∧ (0 : Nat) = x_1.i ∧ ∀ (j : Nat), j < (0 : Nat) → [] = [XT (nmF (wdN (prsV_a s) p.i) j)]) ∧ True) ∧ ∀ (x_1 : IL), x_1.i ≤ (wdN (prsV_a s) p.i).length - (1 : Nat) ∧ p.i < (prsV_a s).length ∧ lenH (prsN (prsV_a s) p.i) ≠ (64 : Nat) ∧ (2 : Nat) ≤ (wdN (prsV_a s) p.i).length ∧ parN (prsV_b s p) = (0 : Int) ∧ oksN (wdN (prsV_a s) p.i) x_1.i = true → (decide ((↑x_1.i : Int) < (↑((wdN (prsV_a s) p.i).length - (1 : Nat)) : Int)) = true → (0 : Int) ≤ (↑x_1.i : Int) ∧ (↑x_1.i : Int) < (↑((wdN (prsV_a s) p.i).length - (1 : Nat)) : Int) ∧ (((toA ((wdN (prsV_a s) p.i).getD ((↑x_1.i : Int).toNat + (1 : Nat)) ⟨#[]⟩)).snd != (0 : Int)) = true → in64 ((↑p.i : Int) + (1 : Int)) ∧ ∃ (x' : (prsI (linesS s)).σ), x'.i.le (prsV_a s).length ∧ (prsV_a s).length - x'.i < (prsV_a s).length - x.i ∧ true = true ∧ XV.sl 0 17 0 (lenH (prsN (prsV_a s) p.i)) = XV.sl 0 17 0 (lenH (prsN (prsV_a s) x'.i)) ∧ (prsV_d s) ∧ (↑(prsV_a s).length : Int) = (↑(prsV_a s).length : Int) ∧ (↑p.i : Int) + (1 : Int) = (↑x'.i : Int) ∧ (prsV_f ∧ lenH (prsN (prsV_a s) p.i) = lenH (prsN (prsV_a s) x'.i) ∧ ∀ (j : Nat), j < lenH (prsN (prsV_a s) p.i) → (hostX (getH (prsN (prsV_a s) p.i) j)) = (hostX (getH (prsN (prsV_a s) x'.i) j))) ∧ True) ∧ (((toA ((wdN (prsV_a s) p.i).getD ((↑x_1.i : Int).toNat + (1 : Nat)) ⟨#[]⟩)).snd != (0 : Int)) = false → x_1.i = x_1.i ∧ (x_1.i + (1 : Nat)) * (16 : Nat) ≤ (140737488355328 : Nat) ∧ x_1.i + (1 : Nat) ≤ (140737488355328 : Nat) ∧ in64 ((↑x_1.i : Int) + (1 : Int)) ∧ ∃ (x' : ({ α := IL, J := prsJ (linesS s) : InvP }.J p).σ), (x'.i ≤ (wdN (prsV_a s) p.i).length - (1 : Nat) ∧ p.i < (prsV_a s).length ∧ lenH (prsN (prsV_a s) p.i) ≠ (64 : Nat) ∧ (2 : Nat) ≤ (wdN (prsV_a s) p.i).length ∧ parN (prsV_b s p) = (0 : Int) ∧ oksN (wdN (prsV_a s) p.i) x'.i = true) ∧ (wdN (prsV_a s) p.i).length - (1 : Nat) - x'.i < (wdN (prsV_a s) p.i).length - (1 : Nat) - x_1.i ∧ true = true ∧ XV.sl 0 17 0 (lenH (prsN (prsV_a s) p.i)) = XV.sl 0 17 0 (lenH (prsN (prsV_a s) p.i)) ∧ XV.ptr 2 0 0 0 = XV.ptr 2 0 0 0 ∧ (prsV_d s) ∧ (↑(prsV_a s).length : Int) = (↑(prsV_a s).length : Int) ∧ (↑p.i : Int) = (↑p.i : Int) ∧ ((XV.fz ((wdN (prsV_a s) p.i).length - (1 : Nat)) 1 fun (j : Nat) => [XT ((wdN (prsV_a s) p.i).getD (j + (1 : Nat)) ⟨#[]⟩)]) = XV.fz ((wdN (prsV_a s) p.i).length - (1 : Nat)) 1 fun (j : Nat) => [XT ((wdN (prsV_a s) p.i).getD (j + (1 : Nat)) ⟨#[]⟩)]) ∧ (↑((wdN (prsV_a s) p.i).length - (1 : Nat)) : Int) = (↑((wdN (prsV_a s) p.i).length - (1 : Nat)) : Int) ∧ (↑x_1.i : Int) + (1 : Int) = (↑x'.i : Int) ∧ (prsV_f ∧ lenH (prsN (prsV_a s) p.i) = lenH (prsN (prsV_a s) p.i) ∧ ∀ (j : Nat), j < lenH (prsN (prsV_a s) p.i) → (hostX (getH (prsN (prsV_a s) p.i) j)) = (hostX (getH (prsN (prsV_a s) p.i) j))) ∧ (((30 : TypeId) = (30 : TypeId) ∧ true = true) ∧ parA (prsV_b s p) 0 = parA (prsV_b s p) 0 ∧ parA (prsV_b s p) 1 = parA (prsV_b s p) 1 ∧ parA (prsV_b s p) 2 = parA (prsV_b s p) 2 ∧ parA (prsV_b s p) 3 = parA (prsV_b s p) 3 ∧ parA (prsV_b s p) 4 = parA (prsV_b s p) 4 ∧ parA (prsV_b s p) 5 = parA (prsV_b s p) 5 ∧ parA (prsV_b s p) 6 = parA (prsV_b s p) 6 ∧ parA (prsV_b s p) 7 = parA (prsV_b s p) 7 ∧ parA (prsV_b s p) 8 = parA (prsV_b s p) 8 ∧ parA (prsV_b s p) 9 = parA (prsV_b s p) 9 ∧ parA (prsV_b s p) 10 = parA (prsV_b s p) 10 ∧ parA (prsV_b s p) 11 = parA (prsV_b s p) 11 ∧ parA (prsV_b s p) 12 = parA (prsV_b s p) 12 ∧ parA (prsV_b s p) 13 = parA (prsV_b s p) 13 ∧ parA (prsV_b s p) 14 = parA (prsV_b s p) 14 ∧ parA (prsV_b s p) 15 = parA (prsV_b s p) 15 ∧ XV.sl 3 1 0 (x_1.i + (1 : Nat)) = XV.sl 3 1 0 x'.i ∧ True) ∧ (((9 : TypeId) = (9 : TypeId) ∧ true = true ∧ (1 : Nat) = (1 : Nat)) ∧ x_1.i + (1 : Nat) = x'.i ∧ ∀ (j : Nat), j < x_1.i + (1 : Nat) → [XT (bif j.blt x_1.i then nmF (wdN (prsV_a s) p.i) j else (toA ((wdN (prsV_a s) p.i).getD ((↑x_1.i : Int).toNat + (1 : Nat)) ⟨#[]⟩)).fst)] = [XT (nmF (wdN (prsV_a s) p.i) j)]) ∧ True)) ∧ (decide ((↑x_1.i : Int) < (↑((wdN (prsV_a s) p.i).length - (1 : Nat)) : Int)) = false → x_1.i = x_1.i ∧ lenH (prsN (prsV_a s) p.i) = lenH (prsN (prsV_a s) p.i) ∧ (lenH (prsN (prsV_a s) p.i) + (1 : Nat)) * (40 : Nat) ≤ (140737488355328 : Nat) ∧ lenH (prsN (prsV_a s) p.i) + (1 : Nat) ≤ (140737488355328 : Nat) ∧ in64 ((↑p.i : Int) + (1 : Int)) ∧ ∃ (x' : (prsI (linesS s)).σ), x'.i.le (prsV_a s).length ∧ (prsV_a s).length - x'.i < (prsV_a s).length - x.i ∧ true = true ∧ XV.sl 0 17 0 (lenH (prsN (prsV_a s) p.i) + (1 : Nat)) = XV.sl 0 17 0 (lenH (prsN (prsV_a s) x'.i)) ∧ (prsV_d s) ∧ (↑(prsV_a s).length : Int) = (↑(prsV_a s).length : Int) ∧ (↑p.i : Int) + (1 : Int) = (↑x'.i : Int) ∧ (prsV_f ∧ lenH (prsN (prsV_a s) p.i) + (1 : Nat) = lenH (prsN (prsV_a s) x'.i) ∧ ∀ (j : Nat), j < lenH (prsN (prsV_a s) p.i) + (1 : Nat) → [X8 (bif j.blt (lenH (prsN (prsV_a s) p.i)) then (getH (prsN (prsV_a s) p.i) j).a.x0 else parA (prsV_b s p) 0), X8 (bif j.blt (lenH (prsN (prsV_a s) p.i)) then (getH (prsN (prsV_a s) p.i) j).a.x1 else parA (prsV_b s p) 1), X8 (bif j.blt (lenH (prsN (prsV_a s) p.i)) then (getH (prsN (prsV_a s) p.i) j).a.x2 else parA (prsV_b s p) 2), X8 (bif j.blt (lenH (prsN (prsV_a s) p.i)) then (getH (prsN (prsV_a s) p.i) j).a.x3 else parA (prsV_b s p) 3), X8 (bif j.blt (lenH (prsN (prsV_a s) p.i)) then (getH (prsN (prsV_a s) p.i) j).a.x4 else parA (prsV_b s p) 4), X8 (bif j.blt (lenH (prsN (prsV_a s) p.i)) then (getH (prsN (prsV_a s) p.i) j).a.x5 else parA (prsV_b s p) 5), X8 (bif j.blt (lenH (prsN (prsV_a s) p.i)) then (getH (prsN (prsV_a s) p.i) j).a.x6 else parA (prsV_b s p) 6), X8 (bif j.blt (lenH (prsN (prsV_a s) p.i)) then (getH (prsN (prsV_a s) p.i) j).a.x7 else parA (prsV_b s p) 7), X8 (bif j.blt (lenH (prsN (prsV_a s) p.i)) then (getH (prsN (prsV_a s) p.i) j).a.x8 else parA (prsV_b s p) 8), X8 (bif j.blt (lenH (prsN (prsV_a s) p.i)) then (getH (prsN (prsV_a s) p.i) j).a.x9 else parA (prsV_b s p) 9), X8 (bif j.blt (lenH (prsN (prsV_a s) p.i)) then (getH (prsN (prsV_a s) p.i) j).a.x10 else parA (prsV_b s p) 10), X8 (bif j.blt (lenH (prsN (prsV_a s) p.i)) then (getH (prsN (prsV_a s) p.i) j).a.x11 else parA (prsV_b s p) 11), X8 (bif j.blt (lenH (prsN (prsV_a s) p.i)) then (getH (prsN (prsV_a s) p.i) j).a.x12 else parA (prsV_b s p) 12), X8 (bif j.blt (lenH (prsN (prsV_a s) p.i)) then (getH (prsN (prsV_a s) p.i) j).a.x13 else parA (prsV_b s p) 13), X8 (bif j.blt (lenH (prsN (prsV_a s) p.i)) then (getH (prsN (prsV_a s) p.i) j).a.x14 else parA (prsV_b s p) 14), X8 (bif j.blt (lenH (prsN (prsV_a s) p.i)) then (getH (prsN (prsV_a s) p.i) j).a.x15 else parA (prsV_b s p) 15), XV.fz (bif j.blt (lenH (prsN (prsV_a s) p.i)) then (getH (prsN (prsV_a s) p.i) j).q.n else x_1.i) 1 fun (j_1 : Nat) => bif j.blt (lenH (prsN (prsV_a s) p.i)) then [XT ((getH (prsN (prsV_a s) p.i) j).q.g j_1)] else [XT (nmF (wdN (prsV_a s) p.i) j_1)]] = (hostX (getH (prsN (prsV_a s) x'.i) j))) ∧ True)))) ∧ (decide ((↑x.i : Int) < (↑(prsV_a s).length : Int)) = false → ((17 : Nat) = (17 : Nat) ∧ (17 : Nat) = (17 : Nat)) ∧ lenH (prsN (prsV_a s) x.i) = lenH (prsN (prsV_a s) x.i) ∧ lenH (prsN (prsV_a s) x.i) = lenH (prsH s) ∧ ∀ (j : Nat), j < lenH (prsN (prsV_a s) x.i) → (hostX (getH (prsN (prsV_a s) x.i) j)) = (hostX (getH (prsH s) j)))
theorem prsV_eq (s : ByteArray) : prsV s = (funC cxy Tryz.f11 (mkSc (prsE s) (bodyOf Tryz.f11)) [XT s] (hostsL (prsH s))) := by kernel_rfl
theorem fz_eq {n m sz : Nat} {f g : Nat → List XV} (h : n = m) (k : ∀ j, f j = g j) : XV.fz n sz f = XV.fz m sz g := by rw [h, funext k]
theorem splitS_each (s : ByteArray) (c : UInt8) (x : ByteArray) (h : x ∈ splitS s ⟨#[c]⟩) : x.size ≤ s.size := by
 rw [splitS_one] at h
 obtain ⟨y, hy, rfl⟩ := List.mem_map.1 h
 rw [mk8_size, size_data s]
 exact split1_each c _ y hy
theorem getD_all {α : Type} {l : List α} {d : α} {P : α → Prop} (hd : P d) (h : ∀ x ∈ l, P x) (i : Nat) : P (l.getD i d) := by
 rw [List.getD_eq_getElem?_getD]
 cases e : l[i]? with
 | none => exact hd
 | some x => exact h x (List.mem_of_getElem? e)
theorem words_each (s x : ByteArray) (h : x ∈ words s) : x.size ≤ s.size := by
 unfold words at h
 have h1 := splitS_each _ 32 x (List.mem_filter.1 h).1
 have h2 := cutB_size s 35
 have h3 : (replB (cutB s ⟨#[35]⟩).1 ⟨#[9]⟩ ⟨#[32]⟩).size ≤ 1 * (cutB s ⟨#[35]⟩).1.size := replB_size _ ⟨#[32]⟩ 9 1 (by decide) (by decide)
 omega
theorem words_len (s : ByteArray) : (words s).length ≤ s.size + 1 := by
 unfold words wPieces
 have h1 := List.length_filter_le isNE (splitS (replB (cutB s ⟨#[35]⟩).1 ⟨#[9]⟩ ⟨#[32]⟩) ⟨#[32]⟩)
 have h4 := splitS_len (replB (cutB s ⟨#[35]⟩).1 ⟨#[9]⟩ ⟨#[32]⟩) 32
 have h2 := cutB_size s 35
 have h3 : (replB (cutB s ⟨#[35]⟩).1 ⟨#[9]⟩ ⟨#[32]⟩).size ≤ 1 * (cutB s ⟨#[35]⟩).1.size := replB_size _ ⟨#[32]⟩ 9 1 (by decide) (by decide)
 omega
theorem oksN_le (w : List ByteArray) : ∀ n j, j ≤ n → oksN w n = true → oksN w j = true
  | 0, j, h, k => by obtain rfl : j = 0 := by omega
                     exact k
  | n + 1, j, h, k => by
    by_cases e : j = n + 1
    · rw [e]; exact k
    · rw [oksN, Bool.and_eq_true] at k
      exact oksN_le w n j (by omega) k.1
theorem lenH_prsN (l : List ByteArray) : ∀ i, lenH (prsN l i) ≤ 64
 | 0 => Nat.zero_le _
 | i + 1 => by
  have ih := lenH_prsN l i
  unfold prsN putH
  split
  ·rename_i h
   unfold lenH at *
   rw [List.length_append, List.length_singleton]
   omega
  ·exact ih
theorem putH_no {o : List Hst} {w : List ByteArray} (h : lenH o = 64 ∨ lnOk w = false) : putH o w = o := if_neg fun k => by
 rcases h with h | h
 ·exact k.1 h
 ·rw [h] at k; exact Bool.noConfusion k.2
theorem getH_app (o : List Hst) (h : Hst) (j : Nat) (hj : j < lenH o + 1) : getH (o ++ [h]) j = if j < lenH o then getH o j else h := by
 unfold getH lenH at *
 split
 ·rename_i k
  rw [List.getD_eq_getElem?_getD, List.getD_eq_getElem?_getD, List.getElem?_append_left k]
 ·rename_i k
  rw [List.getD_eq_getElem?_getD, List.getElem?_append_right (by omega), show j - o.length = 0 by omega]
  rfl
set_option maxHeartbeats 2000000 in
theorem prs_v (s : ByteArray) (hs : s.size ≤ 1000000) : prsV s := by
 unfold prsV prsV_f prsV_e prsV_d prsV_c prsV_b prsV_a
 have hll := splitS_len s 10
 have hsz : ∀ i, ((splitS s ⟨#[10]⟩).getD i ⟨#[]⟩).size ≤ s.size := getD_all (P := fun x : ByteArray => x.size ≤ s.size) (Nat.zero_le _) (fun x hx => splitS_each s 10 x hx)
 have hP : prsH s = prsN (splitS s ⟨#[10]⟩) (splitS s ⟨#[10]⟩).length := rfl
 have hw : ∀ i, wdN (splitS s ⟨#[10]⟩) i = words ((splitS s ⟨#[10]⟩).getD i ⟨#[]⟩) := fun _ => rfl
 rw [hP]
 refine ⟨by omega, by decide, ⟨⟨0⟩, Nat.zero_le _, rfl, rfl, rfl, rfl, rfl, ⟨⟨rfl, rfl, rfl⟩, rfl, fun j hj => absurd hj (Nat.not_lt_zero _)⟩, trivial⟩, ?_⟩
 rintro ⟨i⟩ hi
 have hi : i ≤ (splitS s ⟨#[10]⟩).length := hi
 dsimp only
 refine ⟨fun k => ?_, fun k => ?_⟩
 ·have k : (i : Int) < (splitS s ⟨#[10]⟩).length := of_decide_eq_true k
  rw [Int.toNat_natCast]
  have hp : prsN (splitS s ⟨#[10]⟩) (i + 1) = putH (prsN (splitS s ⟨#[10]⟩) i) (words ((splitS s ⟨#[10]⟩).getD i ⟨#[]⟩)) := rfl
  have h64 := lenH_prsN (splitS s ⟨#[10]⟩) i
  have hwl := words_len ((splitS s ⟨#[10]⟩).getD i ⟨#[]⟩)
  have hsi := hsz i
  have stay : putH (prsN (splitS s ⟨#[10]⟩) i) (words ((splitS s ⟨#[10]⟩).getD i ⟨#[]⟩)) = prsN (splitS s ⟨#[10]⟩) i → ∃ (x' : (prsI (linesS s)).σ), (Nat.le x'.i (splitS s ⟨#[10]⟩).length) ∧ (splitS s ⟨#[10]⟩).length - x'.i < (splitS s ⟨#[10]⟩).length - i ∧ true = true ∧ XV.sl 0 17 0 (lenH (prsN (splitS s ⟨#[10]⟩) i)) = XV.sl 0 17 0 (lenH (prsN (splitS s ⟨#[10]⟩) x'.i)) ∧
    ((XV.fz (splitS s ⟨#[10]⟩).length 1 fun i => [XT ((splitS s ⟨#[10]⟩).getD i ⟨#[]⟩)]) = XV.fz (splitS s ⟨#[10]⟩).length 1 fun i => [XT ((splitS s ⟨#[10]⟩).getD i ⟨#[]⟩)]) ∧ ((splitS s ⟨#[10]⟩).length : Int) = ((splitS s ⟨#[10]⟩).length : Int) ∧ (i : Int) + 1 = (x'.i : Int) ∧
    (((30 : Nat) = (30 : TypeId) ∧ true = true ∧ (17 : Nat) = 17) ∧ lenH (prsN (splitS s ⟨#[10]⟩) i) = lenH (prsN (splitS s ⟨#[10]⟩) x'.i) ∧ ∀ j, j < lenH (prsN (splitS s ⟨#[10]⟩) i) → hostX (getH (prsN (splitS s ⟨#[10]⟩) i) j) = hostX (getH (prsN (splitS s ⟨#[10]⟩) x'.i) j)) ∧ True := fun e => by
   have e : prsN (splitS s ⟨#[10]⟩) (i + 1) = prsN (splitS s ⟨#[10]⟩) i := e
   exact ⟨⟨i + 1⟩, (show i + 1 ≤ (splitS s ⟨#[10]⟩).length by omega), (show (splitS s ⟨#[10]⟩).length - (i + 1) < (splitS s ⟨#[10]⟩).length - i by omega), rfl, congrArg (fun o => XV.sl 0 17 0 (lenH o)) e.symm, rfl, rfl, rfl, ⟨⟨rfl, rfl, rfl⟩, congrArg lenH e.symm, fun j _ => congrArg (fun o => hostX (getH o j)) e.symm⟩, trivial⟩
  refine ⟨by omega, k, by omega, fun h2 => ⟨by unfold in64; omega, stay (putH_no ?_)⟩, fun h2 => ?_⟩
  ·rw [Bool.or_eq_true, decide_eq_true_eq, beq_iff_eq] at h2
   rcases h2 with h2 | h2
   ·right
    unfold lnOk
    rw [decide_eq_false (by omega)]
    rfl
   ·left; omega
  rw [Bool.or_eq_false_iff, decide_eq_false_iff_not, beq_eq_false_iff_ne] at h2
  obtain ⟨h2, h3⟩ := h2
  have hw0 := words_each ((splitS s ⟨#[10]⟩).getD i ⟨#[]⟩)
  have hwz : ∀ j, ((words ((splitS s ⟨#[10]⟩).getD i ⟨#[]⟩)).getD j ⟨#[]⟩).size ≤ s.size := getD_all (P := fun x : ByteArray => x.size ≤ s.size) (Nat.zero_le _) fun x hx => by have := hw0 x hx; omega
  refine ⟨by decide, by omega, by have := hwz 0; omega, fun h4 => ⟨by unfold in64; omega, stay (putH_no (.inr ?_))⟩, fun h4 => ?_⟩
  ·have h4 : parN ((words ((splitS s ⟨#[10]⟩).getD i ⟨#[]⟩)).getD 0 ⟨#[]⟩) ≠ 0 := by simpa using h4
   unfold lnOk
   rw [decide_eq_false h4, Bool.false_and, Bool.and_false]
  have h4 : parN ((words ((splitS s ⟨#[10]⟩).getD i ⟨#[]⟩)).getD 0 ⟨#[]⟩) = 0 := by simpa using h4
  refine ⟨by decide, by omega, by omega, ⟨i⟩, ⟨⟨0⟩, ⟨Nat.zero_le _, by show i < _; omega, by show lenH (prsN (splitS s ⟨#[10]⟩) i) ≠ 64; omega, by show 2 ≤ (words ((splitS s ⟨#[10]⟩).getD i ⟨#[]⟩)).length; omega, h4, rfl⟩, rfl, rfl, rfl, rfl, rfl, rfl, ?_, ?_, rfl, ⟨⟨rfl, rfl, rfl⟩, rfl, fun _ _ => rfl⟩, ⟨⟨rfl, rfl⟩, rfl, rfl, rfl, rfl, rfl, rfl, rfl, rfl, rfl, rfl, rfl, rfl, rfl, rfl, rfl, rfl, rfl, trivial⟩, ⟨⟨rfl, rfl, rfl⟩, rfl, fun j hj => absurd hj (Nat.not_lt_zero _)⟩, trivial⟩, ?_⟩
  ·show XV.fz _ 1 _ = XV.fz ((words ((splitS s ⟨#[10]⟩).getD i ⟨#[]⟩)).length - 1) 1 fun j => [XT ((words ((splitS s ⟨#[10]⟩).getD i ⟨#[]⟩)).getD (j + 1) ⟨#[]⟩)]
   exact fz_eq (by omega) fun j => congrArg (fun k => [XT ((words ((splitS s ⟨#[10]⟩).getD i ⟨#[]⟩)).getD k ⟨#[]⟩)]) (Nat.add_comm 1 j)
  ·show (((((words ((splitS s ⟨#[10]⟩).getD i ⟨#[]⟩)).length : Int) - 1).toNat : Nat) : Int) = (((words ((splitS s ⟨#[10]⟩).getD i ⟨#[]⟩)).length - 1 : Nat) : Int)
   omega
  rintro ⟨m⟩ ⟨hm, -, -, -, -, hok⟩
  dsimp only at hm hok ⊢
  rw [hw] at hm hok
  rw [hw]
  refine ⟨fun k2 => ?_, fun k2 => ?_⟩
  ·have k2 : (m : Int) < (((words ((splitS s ⟨#[10]⟩).getD i ⟨#[]⟩)).length - 1 : Nat) : Int) := of_decide_eq_true k2
   rw [Int.toNat_natCast]
   refine ⟨by omega, k2, fun h5 => ⟨by unfold in64; omega, stay (putH_no (.inr ?_))⟩, fun h5 => ?_⟩
   ·have h5 : (toA ((words ((splitS s ⟨#[10]⟩).getD i ⟨#[]⟩)).getD (m + 1) ⟨#[]⟩)).2 ≠ 0 := by simpa using h5
    unfold lnOk
    cases e : oksN (words ((splitS s ⟨#[10]⟩).getD i ⟨#[]⟩)) ((words ((splitS s ⟨#[10]⟩).getD i ⟨#[]⟩)).length - 1) with
    | false => rw [Bool.and_false, Bool.and_false]
    | true =>
     have := oksN_le _ _ (m + 1) (by omega) e
     rw [oksN, decide_eq_false h5, Bool.and_false] at this
     exact Bool.noConfusion this
   ·have h5 : (toA ((words ((splitS s ⟨#[10]⟩).getD i ⟨#[]⟩)).getD (m + 1) ⟨#[]⟩)).2 = 0 := by simpa using h5
    refine ⟨rfl, by omega, by omega, by unfold in64; omega, ⟨m + 1⟩, ⟨by show m + 1 ≤ (words ((splitS s ⟨#[10]⟩).getD i ⟨#[]⟩)).length - 1; omega, by show i < _; omega, by omega, by omega, h4, ?_⟩, by show (words ((splitS s ⟨#[10]⟩).getD i ⟨#[]⟩)).length - 1 - (m + 1) < _; omega, rfl, rfl, rfl, rfl, rfl, rfl, rfl, rfl, rfl, ⟨⟨rfl, rfl, rfl⟩, rfl, fun _ _ => rfl⟩, ⟨⟨rfl, rfl⟩, rfl, rfl, rfl, rfl, rfl, rfl, rfl, rfl, rfl, rfl, rfl, rfl, rfl, rfl, rfl, rfl, rfl, trivial⟩, ⟨⟨rfl, rfl, rfl⟩, rfl, fun j hj => ?_⟩, trivial⟩
    ·show oksN _ (m + 1) = true
     rw [oksN, hok, decide_eq_true h5]
     rfl
    ·refine congrArg (fun x => [XT x]) ?_
     rw [bltN]
     by_cases hjm : j < m
     ·rw [decide_eq_true hjm]; rfl
     ·rw [decide_eq_false hjm, show j = m by omega]; rfl
  ·have k2 : ¬ (m : Int) < (((words ((splitS s ⟨#[10]⟩).getD i ⟨#[]⟩)).length - 1 : Nat) : Int) := of_decide_eq_false k2
   obtain rfl : m = (words ((splitS s ⟨#[10]⟩).getD i ⟨#[]⟩)).length - 1 := by omega
   have e : prsN (splitS s ⟨#[10]⟩) (i + 1) = prsN (splitS s ⟨#[10]⟩) i ++ [lnH (words ((splitS s ⟨#[10]⟩).getD i ⟨#[]⟩))] := by
    rw [hp]
    refine if_pos ⟨by omega, ?_⟩
    unfold lnOk
    rw [decide_eq_true (by omega), decide_eq_true h4, hok]
    rfl
   have el : lenH (prsN (splitS s ⟨#[10]⟩) i) + 1 = lenH (prsN (splitS s ⟨#[10]⟩) (i + 1)) := by
    rw [e]
    unfold lenH
    rw [List.length_append, List.length_singleton]
   refine ⟨rfl, rfl, by omega, by omega, by unfold in64; omega, ⟨i + 1⟩, (show i + 1 ≤ (splitS s ⟨#[10]⟩).length by omega), (show (splitS s ⟨#[10]⟩).length - (i + 1) < (splitS s ⟨#[10]⟩).length - i by omega), rfl, congrArg (XV.sl 0 17 0) el, rfl, rfl, rfl, ⟨⟨rfl, rfl, rfl⟩, el, fun j hj => ?_⟩, trivial⟩
   show _ = hostX (getH (prsN (splitS s ⟨#[10]⟩) (i + 1)) j)
   rw [e, getH_app _ _ _ hj, bltN]
   by_cases hjl : j < lenH (prsN (splitS s ⟨#[10]⟩) i)
   ·rw [decide_eq_true hjl, if_pos hjl]; rfl
   ·rw [decide_eq_false hjl, if_neg hjl]; kernel_rfl
 ·have k : ¬ (i : Int) < (splitS s ⟨#[10]⟩).length := of_decide_eq_false k
  obtain rfl : i = (splitS s ⟨#[10]⟩).length := by omega
  exact ⟨⟨rfl, rfl⟩, rfl, rfl, fun _ _ => rfl⟩
def prsC : CT := C1 dStr (fun s => [s.size ≤ 1000000]) fun s => hostsL (prsH s)
theorem cxy_ok : cxy.ok Tryz.prog := (((cx0_ok.addC toA_ok).addC pa_ok).addC fld_ok).addC split_ok
theorem prs_ok : CTok Tryz.prog 11 prsC := C1_ok cxy_ok Tryz.func11 rfl (by decide) dStr_eq.ok (by kernel_rfl) (fun _ => rfl) fun s hc => exv (prsV_eq s) (prs_v s (hc _ (.head _)))
end Go.Proofs.YtkjcoehblekpdaaGreatDoorAv
namespace Go.Proofs.YtkjcoehblekpdaaGreatDoorAv
open Go Go.RowKit
abbrev sqH (q : Sq Hst) : XV := .fz q.n 17 fun i => hostX (q.g i)
def rH (l : List XV) : Hst := ⟨⟨byteD (xget l 0), byteD (xget l 1), byteD (xget l 2), byteD (xget l 3), byteD (xget l 4), byteD (xget l 5), byteD (xget l 6), byteD (xget l 7), byteD (xget l 8), byteD (xget l 9), byteD (xget l 10), byteD (xget l 11), byteD (xget l 12), byteD (xget l 13), byteD (xget l 14), byteD (xget l 15)⟩, match xget l 16 with
 | .fz n _ f => ⟨n, fun j => strD (xget (f j) 0)⟩
 | _ => ⟨0, fun _ => ⟨#[]⟩⟩⟩
def dHs : Dc (Sq Hst) := dSl 17 rH hostX dH
end Go.Proofs.YtkjcoehblekpdaaGreatDoorAv
namespace Go.Proofs.YtkjcoehblekpdaaGreatDoorAv
open Go Go.RowKit
def rvF (a : Nat → Int) (j : Nat) : ByteArray := if j < 4 then itoaB (a (15 - j)) else if j = 4 then ⟨#[105, 110, 45, 97, 100, 100, 114]⟩ else ⟨#[97, 114, 112, 97]⟩
def rvH (a : Nat → Int) (j : Nat) : ByteArray := if j % 2 = 0 then hexB (bits .and .u8 (a (15 - j / 2)) 15).toNat else hexB ((a (15 - j / 2)).fdiv (2 ^ 4)).toNat
def rvG (a : Nat → Int) (j : Nat) : ByteArray := if j < 32 then rvH a j else if j = 32 then ⟨#[105, 112, 54]⟩ else ⟨#[97, 114, 112, 97]⟩
def rev (a : Nat → Int) : ByteArray := if is4 a = true then ljF (rvF a) 6 else ljF (rvG a) 34
structure IR where
 i : Nat
def cxr : Cx := { cx0 with C := [(19, is4L), (25, itoaC), (27, fmtC), (26, ljnC)] }
theorem cxr_ok : cxr.ok Tryz.prog := (((cx0_ok.addC ljn_ok).addC fm_ok).addC itoa_ok).addC is4L_ok
def rvI (a : Nat → Int) : Inv where
 σ := IR
 S := fun x => ⟨[(1, .ptr 0 0 0 0), (2, XT ⟨#[]⟩), (3, .sl 1 1 0 (2 * x.i)), (5, XI (15 - (x.i : Int)))], [(0, .one 27 true (adr a).cells), (1, .vec 9 true (2 * x.i) 1 fun j => [XT (rvH a j)])], 2, false, []⟩
 inv := fun x => x.i ≤ 16
 μ := fun x => 16 - x.i
def rvE (a : Nat → Int) : Env := { loops := [(2, rvI a)], rolls := [(0, 5)], own := [(2, [(3, 9, 1)])] }
def rvV_a (a : Nat → Int) (i : Nat) :=
  (bif i.blt ((4 : Nat)) then bif i.blt ((3 : Nat)) then bif i.blt ((2 : Nat)) then bif i.blt ((1 : Nat)) then itoaB ([a (0 : Nat), a (1 : Nat), a (2 : Nat), a (3 : Nat), a (4 : Nat), a (5 : Nat), a (6 : Nat), a (7 : Nat), a (8 : Nat), a (9 : Nat), a (10 : Nat), a (11 : Nat), a (12 : Nat), a (13 : Nat), a (14 : Nat), a (15 : Nat)].getD ((15 : Nat)) (0 : Int)) else itoaB ([a (0 : Nat), a (1 : Nat), a (2 : Nat), a (3 : Nat), a (4 : Nat), a (5 : Nat), a (6 : Nat), a (7 : Nat), a (8 : Nat), a (9 : Nat), a (10 : Nat), a (11 : Nat), a (12 : Nat), a (13 : Nat), a (14 : Nat), a (15 : Nat)].getD ((14 : Nat)) (0 : Int)) else itoaB ([a (0 : Nat), a (1 : Nat), a (2 : Nat), a (3 : Nat), a (4 : Nat), a (5 : Nat), a (6 : Nat), a (7 : Nat), a (8 : Nat), a (9 : Nat), a (10 : Nat), a (11 : Nat), a (12 : Nat), a (13 : Nat), a (14 : Nat), a (15 : Nat)].getD ((13 : Nat)) (0 : Int)) else itoaB ([a (0 : Nat), a (1 : Nat), a (2 : Nat), a (3 : Nat), a (4 : Nat), a (5 : Nat), a (6 : Nat), a (7 : Nat), a (8 : Nat), a (9 : Nat), a (10 : Nat), a (11 : Nat), a (12 : Nat), a (13 : Nat), a (14 : Nat), a (15 : Nat)].getD ((12 : Nat)) (0 : Int)) else [{ data := #[(105 : UInt8), (110 : UInt8), (45 : UInt8), (97 : UInt8), (100 : UInt8), (100 : UInt8), (114 : UInt8)] : ByteArray }, { data := #[(97 : UInt8), (114 : UInt8), (112 : UInt8), (97 : UInt8)] : ByteArray }].getD (i - (4 : Nat)) { data := #[] : ByteArray })
def rvV_b (a : Nat → Int) (x : IR) :=
  ([a (0 : Nat), a (1 : Nat), a (2 : Nat), a (3 : Nat), a (4 : Nat), a (5 : Nat), a (6 : Nat), a (7 : Nat), a (8 : Nat), a (9 : Nat), a (10 : Nat), a (11 : Nat), a (12 : Nat), a (13 : Nat), a (14 : Nat), a (15 : Nat)].getD ((15 : Int) - (↑x.i : Int)).toNat (0 : Int))
def rvV_c (a : Nat → Int) (x : IR) (i : Nat) :=
  (bif i.blt ((2 : Nat) * x.i) then rvH a i else [{ data := #[(105 : UInt8), (112 : UInt8), (54 : UInt8)] : ByteArray }, { data := #[(97 : UInt8), (114 : UInt8), (112 : UInt8), (97 : UInt8)] : ByteArray }].getD (i - (2 : Nat) * x.i) { data := #[] : ByteArray })
def rvV (a : Nat → Int) : Prop :=
  ((is4 fun (i : Nat) => [a (0 : Nat), a (1 : Nat), a (2 : Nat), a (3 : Nat), a (4 : Nat), a (5 : Nat), a (6 : Nat), a (7 : Nat), a (8 : Nat), a (9 : Nat), a (10 : Nat), a (11 : Nat), a (12 : Nat), a (13 : Nat), a (14 : Nat), a (15 : Nat)].getD i (0 : Int)) = true → (0 : Int) ≤ (15 : Int) ∧ (15 : Int) < (↑(16 : Nat) : Int) ∧ (15 : Nat) < [a (0 : Nat), a (1 : Nat), a (2 : Nat), a (3 : Nat), a (4 : Nat), a (5 : Nat), a (6 : Nat), a (7 : Nat), a (8 : Nat), a (9 : Nat), a (10 : Nat), a (11 : Nat), a (12 : Nat), a (13 : Nat), a (14 : Nat), a (15 : Nat)].length ∧ in64 ([a (0 : Nat), a (1 : Nat), a (2 : Nat), a (3 : Nat), a (4 : Nat), a (5 : Nat), a (6 : Nat), a (7 : Nat), a (8 : Nat), a (9 : Nat), a (10 : Nat), a (11 : Nat), a (12 : Nat), a (13 : Nat), a (14 : Nat), a (15 : Nat)].getD ((15 : Nat)) (0 : Int)) ∧ (0 : Int) ≤ [a (0 : Nat), a (1 : Nat), a (2 : Nat), a (3 : Nat), a (4 : Nat), a (5 : Nat), a (6 : Nat), a (7 : Nat), a (8 : Nat), a (9 : Nat), a (10 : Nat), a (11 : Nat), a (12 : Nat), a (13 : Nat), a (14 : Nat), a (15 : Nat)].getD ((15 : Nat)) (0 : Int) ∧ [a (0 : Nat), a (1 : Nat), a (2 : Nat), a (3 : Nat), a (4 : Nat), a (5 : Nat), a (6 : Nat), a (7 : Nat), a (8 : Nat), a (9 : Nat), a (10 : Nat), a (11 : Nat), a (12 : Nat), a (13 : Nat), a (14 : Nat), a (15 : Nat)].getD ((15 : Nat)) (0 : Int) ≤ (1000000 : Int) ∧ (0 : Nat) = (0 : Nat) ∧ (16 : Nat) ≤ (140737488355328 : Nat) ∧ (1 : Nat) ≤ (140737488355328 : Nat) ∧ in64 ((15 : Int) - (1 : Int)) ∧ (0 : Int) ≤ (15 : Int) - (1 : Int) ∧ (15 : Int) - (1 : Int) < (↑(16 : Nat) : Int) ∧ (14 : Nat) < [a (0 : Nat), a (1 : Nat), a (2 : Nat), a (3 : Nat), a (4 : Nat), a (5 : Nat), a (6 : Nat), a (7 : Nat), a (8 : Nat), a (9 : Nat), a (10 : Nat), a (11 : Nat), a (12 : Nat), a (13 : Nat), a (14 : Nat), a (15 : Nat)].length ∧ in64 ([a (0 : Nat), a (1 : Nat), a (2 : Nat), a (3 : Nat), a (4 : Nat), a (5 : Nat), a (6 : Nat), a (7 : Nat), a (8 : Nat), a (9 : Nat), a (10 : Nat), a (11 : Nat), a (12 : Nat), a (13 : Nat), a (14 : Nat), a (15 : Nat)].getD ((14 : Nat)) (0 : Int)) ∧ (0 : Int) ≤ [a (0 : Nat), a (1 : Nat), a (2 : Nat), a (3 : Nat), a (4 : Nat), a (5 : Nat), a (6 : Nat), a (7 : Nat), a (8 : Nat), a (9 : Nat), a (10 : Nat), a (11 : Nat), a (12 : Nat), a (13 : Nat), a (14 : Nat), a (15 : Nat)].getD ((14 : Nat)) (0 : Int) ∧ [a (0 : Nat), a (1 : Nat), a (2 : Nat), a (3 : Nat), a (4 : Nat), a (5 : Nat), a (6 : Nat), a (7 : Nat), a (8 : Nat), a (9 : Nat), a (10 : Nat), a (11 : Nat), a (12 : Nat), a (13 : Nat), a (14 : Nat), a (15 : Nat)].getD ((14 : Nat)) (0 : Int) ≤ (1000000 : Int) ∧ (1 : Nat) = (1 : Nat) ∧ (32 : Nat) ≤ (140737488355328 : Nat) ∧ (2 : Nat) ≤ (140737488355328 : Nat) ∧ in64 ((15 : Int) - (1 : Int) - (1 : Int)) ∧ (0 : Int) ≤ (15 : Int) - (1 : Int) - (1 : Int) ∧ (15 : Int) - (1 : Int) - (1 : Int) < (↑(16 : Nat) : Int) ∧ (13 : Nat) < [a (0 : Nat), a (1 : Nat), a (2 : Nat), a (3 : Nat), a (4 : Nat), a (5 : Nat), a (6 : Nat), a (7 : Nat), a (8 : Nat), a (9 : Nat), a (10 : Nat), a (11 : Nat), a (12 : Nat), a (13 : Nat), a (14 : Nat), a (15 : Nat)].length ∧ in64 ([a (0 : Nat), a (1 : Nat), a (2 : Nat), a (3 : Nat), a (4 : Nat), a (5 : Nat), a (6 : Nat), a (7 : Nat), a (8 : Nat), a (9 : Nat), a (10 : Nat), a (11 : Nat), a (12 : Nat), a (13 : Nat), a (14 : Nat), a (15 : Nat)].getD ((13 : Nat)) (0 : Int)) ∧ (0 : Int) ≤ [a (0 : Nat), a (1 : Nat), a (2 : Nat), a (3 : Nat), a (4 : Nat), a (5 : Nat), a (6 : Nat), a (7 : Nat), a (8 : Nat), a (9 : Nat), a (10 : Nat), a (11 : Nat), a (12 : Nat), a (13 : Nat), a (14 : Nat), a (15 : Nat)].getD ((13 : Nat)) (0 : Int) ∧ [a (0 : Nat), a (1 : Nat), a (2 : Nat), a (3 : Nat), a (4 : Nat), a (5 : Nat), a (6 : Nat), a (7 : Nat), a (8 : Nat), a (9 : Nat), a (10 : Nat), a (11 : Nat), a (12 : Nat), a (13 : Nat), a (14 : Nat), a (15 : Nat)].getD ((13 : Nat)) (0 : Int) ≤ (1000000 : Int) ∧ (2 : Nat) = (2 : Nat) ∧ (48 : Nat) ≤ (140737488355328 : Nat) ∧ (3 : Nat) ≤ (140737488355328 : Nat) ∧ in64 ((15 : Int) - (1 : Int) - (1 : Int) - (1 : Int)) ∧ (0 : Int) ≤ (15 : Int) - (1 : Int) - (1 : Int) - (1 : Int) ∧ (15 : Int) - (1 : Int) - (1 : Int) - (1 : Int) < (↑(16 : Nat) : Int) ∧ (12 : Nat) < [a (0 : Nat), a (1 : Nat), a (2 : Nat), a (3 : Nat), a (4 : Nat), a (5 : Nat), a (6 : Nat), a (7 : Nat), a (8 : Nat), a (9 : Nat), a (10 : Nat), a (11 : Nat), a (12 : Nat), a (13 : Nat), a (14 : Nat), a (15 : Nat)].length ∧ in64 ([a (0 : Nat), a (1 : Nat), a (2 : Nat), a (3 : Nat), a (4 : Nat), a (5 : Nat), a (6 : Nat), a (7 : Nat), a (8 : Nat), a (9 : Nat), a (10 : Nat), a (11 : Nat), a (12 : Nat), a (13 : Nat), a (14 : Nat), a (15 : Nat)].getD ((12 : Nat)) (0 : Int)) ∧ (0 : Int) ≤ [a (0 : Nat), a (1 : Nat), a (2 : Nat), a (3 : Nat), a (4 : Nat), a (5 : Nat), a (6 : Nat), a (7 : Nat), a (8 : Nat), a (9 : Nat), a (10 : Nat), a (11 : Nat), a (12 : Nat), a (13 : Nat), a (14 : Nat), a (15 : Nat)].getD ((12 : Nat)) (0 : Int) ∧ [a (0 : Nat), a (1 : Nat), a (2 : Nat), a (3 : Nat), a (4 : Nat), a (5 : Nat), a (6 : Nat), a (7 : Nat), a (8 : Nat), a (9 : Nat), a (10 : Nat), a (11 : Nat), a (12 : Nat), a (13 : Nat), a (14 : Nat), a (15 : Nat)].getD ((12 : Nat)) (0 : Int) ≤ (1000000 : Int) ∧ (3 : Nat) = (3 : Nat) ∧ (64 : Nat) ≤ (140737488355328 : Nat) ∧ (4 : Nat) ≤ (140737488355328 : Nat) ∧ in64 ((15 : Int) - (1 : Int) - (1 : Int) - (1 : Int) - (1 : Int)) ∧ (4 : Nat) = (4 : Nat) ∧ (96 : Nat) ≤ (140737488355328 : Nat) ∧ (6 : Nat) ≤ (140737488355328 : Nat) ∧ (6 : Nat) = (6 : Nat) ∧ (∀ (i : Nat), i < (6 : Nat) → [XT (rvV_a a i)] = [XT (rvV_a a i)]) ∧ (6 : Nat) ≤ (3000 : Nat) ∧ (∀ (i : Nat), i < (6 : Nat) → (rvV_a a i).size ≤ (1000000 : Nat)) ∧ ljF (fun (i : Nat) => bif i.blt ((4 : Nat)) then bif i.blt ((3 : Nat)) then bif i.blt ((2 : Nat)) then bif i.blt ((1 : Nat)) then itoaB ([a (0 : Nat), a (1 : Nat), a (2 : Nat), a (3 : Nat), a (4 : Nat), a (5 : Nat), a (6 : Nat), a (7 : Nat), a (8 : Nat), a (9 : Nat), a (10 : Nat), a (11 : Nat), a (12 : Nat), a (13 : Nat), a (14 : Nat), a (15 : Nat)].getD ((15 : Nat)) (0 : Int)) else itoaB ([a (0 : Nat), a (1 : Nat), a (2 : Nat), a (3 : Nat), a (4 : Nat), a (5 : Nat), a (6 : Nat), a (7 : Nat), a (8 : Nat), a (9 : Nat), a (10 : Nat), a (11 : Nat), a (12 : Nat), a (13 : Nat), a (14 : Nat), a (15 : Nat)].getD ((14 : Nat)) (0 : Int)) else itoaB ([a (0 : Nat), a (1 : Nat), a (2 : Nat), a (3 : Nat), a (4 : Nat), a (5 : Nat), a (6 : Nat), a (7 : Nat), a (8 : Nat), a (9 : Nat), a (10 : Nat), a (11 : Nat), a (12 : Nat), a (13 : Nat), a (14 : Nat), a (15 : Nat)].getD ((13 : Nat)) (0 : Int)) else itoaB ([a (0 : Nat), a (1 : Nat), a (2 : Nat), a (3 : Nat), a (4 : Nat), a (5 : Nat), a (6 : Nat), a (7 : Nat), a (8 : Nat), a (9 : Nat), a (10 : Nat), a (11 : Nat), a (12 : Nat), a (13 : Nat), a (14 : Nat), a (15 : Nat)].getD ((12 : Nat)) (0 : Int)) else [{ data := #[(105 : UInt8), (110 : UInt8), (45 : UInt8), (97 : UInt8), (100 : UInt8), (100 : UInt8), (114 : UInt8)] : ByteArray }, { data := #[(97 : UInt8), (114 : UInt8), (112 : UInt8), (97 : UInt8)] : ByteArray }].getD (i - (4 : Nat)) { data := #[] : ByteArray }) ((6 : Nat)) = rev a) ∧ ((is4 fun (i : Nat) => [a (0 : Nat), a (1 : Nat), a (2 : Nat), a (3 : Nat), a (4 : Nat), a (5 : Nat), a (6 : Nat), a (7 : Nat), a (8 : Nat), a (9 : Nat), a (10 : Nat), a (11 : Nat), a (12 : Nat), a (13 : Nat), a (14 : Nat), a (15 : Nat)].getD i (0 : Int)) = false → (∃ (x : (rvI a).σ), x.i.le (16 : Nat) ∧ true = true ∧ XV.ptr (0 : Nat) (0 : Nat) (0 : Nat) (0 : Nat) = XV.ptr (0 : Nat) (0 : Nat) (0 : Nat) (0 : Nat) ∧ { data := #[] : ByteArray } = { data := #[] : ByteArray } ∧ XV.sl ((0 : Nat) + (1 : Nat)) (1 : Nat) (0 : Nat) (0 : Nat) = XV.sl (1 : Nat) (1 : Nat) (0 : Nat) ((2 : Nat) * x.i) ∧ (15 : Int) = (15 : Int) - (↑x.i : Int) ∧ (((27 : Nat) = (27 : TypeId) ∧ true = true) ∧ a (0 : Nat) = a (0 : Nat) ∧ a (1 : Nat) = a (1 : Nat) ∧ a (2 : Nat) = a (2 : Nat) ∧ a (3 : Nat) = a (3 : Nat) ∧ a (4 : Nat) = a (4 : Nat) ∧ a (5 : Nat) = a (5 : Nat) ∧ a (6 : Nat) = a (6 : Nat) ∧ a (7 : Nat) = a (7 : Nat) ∧ a (8 : Nat) = a (8 : Nat) ∧ a (9 : Nat) = a (9 : Nat) ∧ a (10 : Nat) = a (10 : Nat) ∧ a (11 : Nat) = a (11 : Nat) ∧ a (12 : Nat) = a (12 : Nat) ∧ a (13 : Nat) = a (13 : Nat) ∧ a (14 : Nat) = a (14 : Nat) ∧ a (15 : Nat) = a (15 : Nat) ∧ True) ∧ (((9 : Nat) = (9 : TypeId) ∧ true = true ∧ (1 : Nat) = (1 : Nat)) ∧ (0 : Nat) = (2 : Nat) * x.i ∧ ∀ (j : Nat), j < (0 : Nat) → [] = [XT (rvH a j)]) ∧ True) ∧ ∀ (x : IR), x.i.le (16 : Nat) → (decide ((15 : Int) - (↑x.i : Int) ≥ (0 : Int)) = true → (0 : Int) ≤ (15 : Int) - (↑x.i : Int) ∧ (15 : Int) - (↑x.i : Int) < (↑(16 : Nat) : Int) ∧ ((15 : Int) - (↑x.i : Int)).toNat < [a (0 : Nat), a (1 : Nat), a (2 : Nat), a (3 : Nat), a (4 : Nat), a (5 : Nat), a (6 : Nat), a (7 : Nat), a (8 : Nat), a (9 : Nat), a (10 : Nat), a (11 : Nat), a (12 : Nat), a (13 : Nat), a (14 : Nat), a (15 : Nat)].length ∧ in64 (bits BinOp.and IntKind.u8 (rvV_b a x) (15 : Int)) ∧ (0 : Int) ≤ bits BinOp.and IntKind.u8 (rvV_b a x) (15 : Int) ∧ bits BinOp.and IntKind.u8 (rvV_b a x) (15 : Int) < (65536 : Int) ∧ (16 : Int) = (16 : Int) ∧ (0 : Int) ≤ (15 : Int) - (↑x.i : Int) ∧ (15 : Int) - (↑x.i : Int) < (↑(16 : Nat) : Int) ∧ ((15 : Int) - (↑x.i : Int)).toNat < [a (0 : Nat), a (1 : Nat), a (2 : Nat), a (3 : Nat), a (4 : Nat), a (5 : Nat), a (6 : Nat), a (7 : Nat), a (8 : Nat), a (9 : Nat), a (10 : Nat), a (11 : Nat), a (12 : Nat), a (13 : Nat), a (14 : Nat), a (15 : Nat)].length ∧ in64 ((rvV_b a x).fdiv ((2 : Int) ^ (4 : Nat))) ∧ (0 : Int) ≤ (rvV_b a x).fdiv ((2 : Int) ^ (4 : Nat)) ∧ (rvV_b a x).fdiv ((2 : Int) ^ (4 : Nat)) < (65536 : Int) ∧ (16 : Int) = (16 : Int) ∧ (2 : Nat) * x.i = (2 : Nat) * x.i ∧ ((2 : Nat) * x.i + (2 : Nat)) * (16 : Nat) ≤ (140737488355328 : Nat) ∧ (2 : Nat) * x.i + (2 : Nat) ≤ (140737488355328 : Nat) ∧ in64 ((15 : Int) - (↑x.i : Int) - (1 : Int)) ∧ ∃ (x' : (rvI a).σ), x'.i.le (16 : Nat) ∧ (16 : Nat) - x'.i < (16 : Nat) - x.i ∧ true = true ∧ XV.ptr (0 : Nat) (0 : Nat) (0 : Nat) (0 : Nat) = XV.ptr (0 : Nat) (0 : Nat) (0 : Nat) (0 : Nat) ∧ { data := #[] : ByteArray } = { data := #[] : ByteArray } ∧ XV.sl (1 : Nat) (1 : Nat) (0 : Nat) ((2 : Nat) * x.i + (2 : Nat)) = XV.sl (1 : Nat) (1 : Nat) (0 : Nat) ((2 : Nat) * x'.i) ∧ (15 : Int) - (↑x.i : Int) - (1 : Int) = (15 : Int) - (↑x'.i : Int) ∧ (((27 : TypeId) = (27 : TypeId) ∧ true = true) ∧ a (0 : Nat) = a (0 : Nat) ∧ a (1 : Nat) = a (1 : Nat) ∧ a (2 : Nat) = a (2 : Nat) ∧ a (3 : Nat) = a (3 : Nat) ∧ a (4 : Nat) = a (4 : Nat) ∧ a (5 : Nat) = a (5 : Nat) ∧ a (6 : Nat) = a (6 : Nat) ∧ a (7 : Nat) = a (7 : Nat) ∧ a (8 : Nat) = a (8 : Nat) ∧ a (9 : Nat) = a (9 : Nat) ∧ a (10 : Nat) = a (10 : Nat) ∧ a (11 : Nat) = a (11 : Nat) ∧ a (12 : Nat) = a (12 : Nat) ∧ a (13 : Nat) = a (13 : Nat) ∧ a (14 : Nat) = a (14 : Nat) ∧ a (15 : Nat) = a (15 : Nat) ∧ True) ∧ (((9 : TypeId) = (9 : TypeId) ∧ true = true ∧ (1 : Nat) = (1 : Nat)) ∧ (2 : Nat) * x.i + (2 : Nat) = (2 : Nat) * x'.i ∧ ∀ (j : Nat), j < (2 : Nat) * x.i + (2 : Nat) → [XT (bif j.blt ((2 : Nat) * x.i) then rvH a j else [hexB (bits BinOp.and IntKind.u8 (rvV_b a x) (15 : Int)).toNat, hexB ((rvV_b a x).fdiv ((2 : Int) ^ (4 : Nat))).toNat].getD (j - (2 : Nat) * x.i) { data := #[] : ByteArray })] = [XT (rvH a j)]) ∧ True) ∧ (decide ((15 : Int) - (↑x.i : Int) ≥ (0 : Int)) = false → (2 : Nat) * x.i = (2 : Nat) * x.i ∧ ((2 : Nat) * x.i + (2 : Nat)) * (16 : Nat) ≤ (140737488355328 : Nat) ∧ (2 : Nat) * x.i + (2 : Nat) ≤ (140737488355328 : Nat) ∧ (2 : Nat) * x.i + (2 : Nat) = (2 : Nat) * x.i + (2 : Nat) ∧ (∀ (i : Nat), i < (2 : Nat) * x.i + (2 : Nat) → [XT (rvV_c a x i)] = [XT (rvV_c a x i)]) ∧ (2 : Nat) * x.i + (2 : Nat) ≤ (3000 : Nat) ∧ (∀ (i : Nat), i < (2 : Nat) * x.i + (2 : Nat) → (rvV_c a x i).size ≤ (1000000 : Nat)) ∧ ljF (fun (i : Nat) => bif i.blt ((2 : Nat) * x.i) then rvH a i else [{ data := #[(105 : UInt8), (112 : UInt8), (54 : UInt8)] : ByteArray }, { data := #[(97 : UInt8), (114 : UInt8), (112 : UInt8), (97 : UInt8)] : ByteArray }].getD (i - (2 : Nat) * x.i) { data := #[] : ByteArray }) ((2 : Nat) * x.i + (2 : Nat)) = rev a))
theorem rvV_eq (a : Nat → Int) : rvV a = (funC cxr Tryz.f14 (mkSc (rvE a) (bodyOf Tryz.f14)) [adr a] (XT (rev a))) := by kernel_rfl
end Go.Proofs.YtkjcoehblekpdaaGreatDoorAv
namespace Go.Proofs.YtkjcoehblekpdaaGreatDoorAv
open Go Go.RowKit
theorem andB15 (x : Int) (h : 0 ≤ x ∧ x ≤ 255) : bits .and .u8 x 15 = ((x.toNat % 16 : Nat) : Int) := by
 have := u8_and15 (x := x) h.1 (by omega)
 rw [this]
 omega
theorem div16 (x : Int) (h : 0 ≤ x ∧ x ≤ 255) : x.fdiv (2 ^ 4) = ((x.toNat / 16 : Nat) : Int) := by
 rw [Int.fdiv_eq_ediv_of_nonneg _ (by decide)]
 have : (2 : Int) ^ 4 = 16 := rfl
 rw [this]
 omega
theorem ljF_ext (g h : Nat → ByteArray) : ∀ n, (∀ i, i < n → g i = h i) → ljF g n = ljF h n
 | 0, _ => rfl
 | n + 1, e => by rw [ljF, ljF, ljF_ext g h n (fun i hi => e i (by omega)), e n (by omega)]
theorem rvH_size (a : Nat → Int) (j : Nat) : (rvH a j).size ≤ 4 := by
 unfold rvH
 split <;> exact hexB_size _
theorem itoa_sz (x : Int) (h : 0 ≤ x ∧ x ≤ 255) : (itoaB x).size ≤ 1000000 := by
 have := itoaB_byte ⟨x.toNat, by omega⟩
 have e : (((⟨x.toNat, by omega⟩ : Fin 256).val : Nat) : Int) = x := by
  show ((x.toNat : Nat) : Int) = x
  omega
 rw [e] at this
 omega
theorem rv_v (a : Nat → Int) (ha : b16 a) : rvV a := by
 have hb := g16b a ha
 unfold rvV rvV_c rvV_b rvV_a
 have el : (is4 fun i => [a 0, a 1, a 2, a 3, a 4, a 5, a 6, a 7, a 8, a 9, a 10, a 11, a 12, a 13, a 14, a 15].getD i 0) = is4 a := is4_ext fun k hk => get16 a k hk
 rw [el]
 have e6 : ∀ i, i < 6 → (bif i.blt 4 then bif i.blt 3 then bif i.blt 2 then bif i.blt 1 then itoaB ([a 0, a 1, a 2, a 3, a 4, a 5, a 6, a 7, a 8, a 9, a 10, a 11, a 12, a 13, a 14, a 15].getD 15 0) else itoaB ([a 0, a 1, a 2, a 3, a 4, a 5, a 6, a 7, a 8, a 9, a 10, a 11, a 12, a 13, a 14, a 15].getD 14 0) else itoaB ([a 0, a 1, a 2, a 3, a 4, a 5, a 6, a 7, a 8, a 9, a 10, a 11, a 12, a 13, a 14, a 15].getD 13 0) else itoaB ([a 0, a 1, a 2, a 3, a 4, a 5, a 6, a 7, a 8, a 9, a 10, a 11, a 12, a 13, a 14, a 15].getD 12 0) else [(⟨#[105, 110, 45, 97, 100, 100, 114]⟩ : ByteArray), ⟨#[97, 114, 112, 97]⟩].getD (i - 4) ⟨#[]⟩) = rvF a i := fun i hi => by
  match i, hi with
  | 0, _ => rfl
  | 1, _ => rfl
  | 2, _ => rfl
  | 3, _ => rfl
  | 4, _ => rfl
  | 5, _ => rfl
  | i + 6, hi => exact absurd hi (by omega)
 refine ⟨fun h4 => ?_, fun h4 => ⟨⟨⟨0⟩, Nat.zero_le _, rfl, rfl, rfl, rfl, rfl, ?_, ⟨⟨rfl, rfl, rfl⟩, rfl, fun j hj => absurd hj (by omega)⟩, trivial⟩, ?_⟩⟩
 ·have h4 : is4 a = true := h4
  refine ⟨by omega, by omega, by show 15 < 16; omega, in64_b (hb _), (hb _).1, Int.le_trans (hb _).2 (by decide), rfl, by omega, by omega, by unfold in64; omega, by omega, by omega, by show 14 < 16; omega, in64_b (hb _), (hb _).1, Int.le_trans (hb _).2 (by decide), rfl, by omega, by omega, by unfold in64; omega, by omega, by omega, by show 13 < 16; omega, in64_b (hb _), (hb _).1, Int.le_trans (hb _).2 (by decide), rfl, by omega, by omega, by unfold in64; omega, by omega, by omega, by show 12 < 16; omega, in64_b (hb _), (hb _).1, Int.le_trans (hb _).2 (by decide), rfl, by omega, by omega, by unfold in64; omega, rfl, by omega, by omega, rfl, fun _ _ => rfl, by omega, fun i hi => ?_, ?_⟩
  ·rw [e6 i hi]
   unfold rvF
   split
   ·exact itoa_sz _ (ha (15 - i) (by omega))
   ·split
    ·show 7 ≤ 1000000; omega
    ·show 4 ≤ 1000000; omega
  ·rw [ljF_ext _ (rvF a) 6 e6]
   unfold rev
   rw [if_pos h4]
 ·and_intros <;> first | with_reducible rfl | trivial
 ·rintro ⟨i⟩ hi
  have hi : i ≤ 16 := hi
  refine ⟨fun h => ?_, fun h => ?_⟩
  ·have h : (15 : Int) - (i : Int) ≥ 0 := of_decide_eq_true h
   have e : ((15 : Int) - (i : Int)).toNat = 15 - i := by omega
   have hx := ha (15 - i) (by omega)
   dsimp only
   rw [e, get16 a (15 - i) (by omega)]
   have b1 := andB15 _ hx
   have b2 := div16 _ hx
   have hl : (a (15 - i)).toNat < 256 := by omega
   refine ⟨by omega, by omega, by show 15 - i < 16; omega, by rw [b1]; unfold in64; omega, by rw [b1]; omega, by rw [b1]; omega, rfl, by omega, by omega, by show 15 - i < 16; omega, by rw [b2]; unfold in64; omega, by rw [b2]; omega, by rw [b2]; omega, rfl, rfl, by omega, by omega, by unfold in64; omega, ⟨i + 1⟩, by show i + 1 ≤ 16; omega, by show 16 - (i + 1) < 16 - i; omega, rfl, rfl, rfl, ?_, ?_, ?_, ⟨⟨rfl, rfl, rfl⟩, ?_, fun j hj => ?_⟩, trivial⟩
   ·show XV.sl 1 1 0 (2 * i + 2) = XV.sl 1 1 0 (2 * (i + 1))
    rw [show 2 * (i + 1) = 2 * i + 2 by omega]
   ·show (15 : Int) - i - 1 = 15 - ((i + 1 : Nat) : Int)
    omega
   ·and_intros <;> first | with_reducible rfl | trivial
   ·show 2 * i + 2 = 2 * (i + 1)
    omega
   ·refine congrArg (fun x => [XT x]) ?_
    rw [bltN]
    by_cases h1 : j < 2 * i
    ·rw [decide_eq_true h1, cond_true]
    ·rw [decide_eq_false h1, cond_false]
     unfold rvH
     by_cases h2 : j = 2 * i
     ·subst h2
      rw [Nat.sub_self, if_pos (by omega), show 15 - 2 * i / 2 = 15 - i by omega]
      rfl
     ·have h3 : j = 2 * i + 1 := by omega
      subst h3
      rw [show 2 * i + 1 - 2 * i = 1 by omega, if_neg (by omega), show 15 - (2 * i + 1) / 2 = 15 - i by omega]
      rfl
  ·have h : ¬ (15 : Int) - (i : Int) ≥ 0 := of_decide_eq_false h
   obtain rfl : i = 16 := by omega
   have eg : ∀ j, j < 2 * 16 + 2 → (bif j.blt (2 * 16) then rvH a j else [(⟨#[105, 112, 54]⟩ : ByteArray), ⟨#[97, 114, 112, 97]⟩].getD (j - 2 * 16) ⟨#[]⟩) = rvG a j := fun j hj => by
    rw [bltN]
    unfold rvG
    by_cases h1 : j < 2 * 16
    ·rw [decide_eq_true h1, cond_true, if_pos h1]
    ·rw [decide_eq_false h1, cond_false, if_neg h1]
     by_cases h2 : j = 32
     ·subst h2; rfl
     ·have h3 : j = 33 := by omega
      subst h3
      rfl
   refine ⟨rfl, by dsimp only; omega, by dsimp only; omega, rfl, fun _ _ => rfl, by dsimp only; omega, fun j hj => ?_, ?_⟩
   ·dsimp only at hj ⊢
    rw [eg j hj]
    unfold rvG
    have := rvH_size a j
    split
    ·omega
    ·split
     ·show 3 ≤ 1000000; omega
     ·show 4 ≤ 1000000; omega
   ·dsimp only
    rw [ljF_ext _ (rvG a) (2 * 16 + 2) eg]
    unfold rev
    rw [if_neg (by rw [show is4 a = false from h4]; decide)]
def revC : CT := C1 dAL (fun g => [b16 g]) fun g => XT (rev g)
theorem rev_ok : CTok Tryz.prog 14 revC := C1_ok cxr_ok Tryz.func14 rfl (by decide) dAL_eq.ok (by kernel_rfl) (fun _ => rfl) fun g hc => exv (rvV_eq g) (rv_v g (hc (b16 g) (.head _)))
end Go.Proofs.YtkjcoehblekpdaaGreatDoorAv
namespace Go.Proofs.YtkjcoehblekpdaaGreatDoorAv
open Go Go.RowKit
structure Rec where
 n : ByteArray
 k : Int
 ttl : Int
 a : A16
 t : ByteArray
 d : ByteArray
def recX (r : Rec) : List XV := [XT r.n, XI r.k, XI r.ttl, X8 r.a.x0, X8 r.a.x1, X8 r.a.x2, X8 r.a.x3, X8 r.a.x4, X8 r.a.x5, X8 r.a.x6, X8 r.a.x7, X8 r.a.x8, X8 r.a.x9, X8 r.a.x10, X8 r.a.x11, X8 r.a.x12, X8 r.a.x13, X8 r.a.x14, X8 r.a.x15, XT r.t, XT r.d]
def z16 : A16 := ⟨0, 0, 0, 0, 0, 0, 0, 0, 0, 0, 0, 0, 0, 0, 0, 0⟩
def dR : Rec := ⟨⟨#[]⟩, 0, 0, z16, ⟨#[]⟩, ⟨#[]⟩⟩
def lenR (l : List Rec) : Nat := l.length
def getR (l : List Rec) (i : Nat) : Rec := l.getD i dR
def recsL (l : List Rec) : XV := .fz (lenR l) 21 fun i => recX (getR l i)
def kdB (h : Hst) (k : Int) : Bool := k == 1 && is4 h.a.f || k == 28 && !is4 h.a.f
def fndO (h : Hst) (n : ByteArray) (k : Int) : List Rec :=
 if rev h.a.f = n then (if (k == 12) = true then [⟨n, k, 0, z16, h.q.g 0, ⟨#[]⟩⟩] else [])
 else if hasF h.q.g n h.q.n = true then (if kdB h k = true then [⟨n, k, 0, h.a, ⟨#[]⟩, ⟨#[]⟩⟩] else []) else []
def fndT (h : Hst) (n : ByteArray) : Bool := decide (rev h.a.f = n) || hasF h.q.g n h.q.n
def fndN (g : Nat → Hst) (n : ByteArray) (k : Int) : Nat → List Rec
 | 0 => []
 | i + 1 => fndN g n k i ++ fndO (g i) n k
def fndB (g : Nat → Hst) (n : ByteArray) : Nat → Bool
 | 0 => false
 | i + 1 => fndB g n i || fndT (g i) n
def fndR (q : Sq Hst) (n : ByteArray) (k : Int) : List Rec := (fndN q.g n k q.n).take 32
def cxf' : Cx := { cx0 with C := [(14, revC), (15, hasC), (19, is4L)] }
def fnI (q : Sq Hst) (n : ByteArray) (k : Int) : Inv where
 σ := IL
 S := fun x => ⟨[(1, XT n), (2, XI k), (8, .sl 0 21 0 (lenR (fndN q.g n k x.i))), (9, XB (fndB q.g n x.i)), (12, sqH q), (13, XI q.n), (14, XI x.i)], [(0, .vec 38 true (lenR (fndN q.g n k x.i)) 21 fun j => recX (getR (fndN q.g n k x.i) j))], 1, false, []⟩
 inv := fun x => x.i ≤ q.n
 μ := fun x => q.n - x.i
def fnE (q : Sq Hst) (n : ByteArray) (k : Int) : Env := { loops := [(0, fnI q n k)], own := [(2, [(8, 38, 21)])], frz := [(15, [8])] }
def fnV (q : Sq Hst) (n : ByteArray) (k : Int) : Prop :=
 (∃ (x : (fnI q n k).σ), x.i.le q.n ∧ true = true ∧ n = n ∧ k = k ∧ XV.sl 0 21 0 0 = XV.sl 0 21 0 (lenR (fndN q.g n k x.i)) ∧ false = fndB q.g n x.i ∧ (XV.fz q.n 17 fun (i : Nat) => (hostX (q.g i))) = sqH q ∧ (↑q.n : Int) = (↑q.n : Int) ∧ (0 : Int) = (↑x.i : Int) ∧ (((38 : Nat) = (38 : TypeId) ∧ true = true ∧ (21 : Nat) = (21 : Nat)) ∧ (0 : Nat) = lenR (fndN q.g n k x.i) ∧ ∀ (j : Nat), j < (0 : Nat) → [] = (recX (getR (fndN q.g n k x.i) j))) ∧ True) ∧ ∀ (x : IL), x.i.le q.n → (decide ((↑x.i : Int) < (↑q.n : Int)) = true → (0 : Int) ≤ (↑x.i : Int) ∧ (↑x.i : Int) < (↑q.n : Int) ∧ (b16 (A16.f (q.g (↑x.i : Int).toNat).a)) ∧ (decide ((rev (A16.f (q.g (↑x.i : Int).toNat).a)) = n) = true → ((k == (12 : Int)) = true → (0 : Int) ≤ (0 : Int) ∧ (0 : Int) < (↑(q.g (↑x.i : Int).toNat).q.n : Int) ∧ lenR (fndN q.g n k x.i) = lenR (fndN q.g n k x.i) ∧ (lenR (fndN q.g n k x.i) + (1 : Nat)) * (80 : Nat) ≤ (140737488355328 : Nat) ∧ lenR (fndN q.g n k x.i) + (1 : Nat) ≤ (140737488355328 : Nat) ∧ in64 ((↑x.i : Int) + (1 : Int)) ∧ ∃ (x' : (fnI q n k).σ), x'.i.le q.n ∧ q.n - x'.i < q.n - x.i ∧ true = true ∧ n = n ∧ k = k ∧ XV.sl 0 21 0 (lenR (fndN q.g n k x.i) + (1 : Nat)) = XV.sl 0 21 0 (lenR (fndN q.g n k x'.i)) ∧ true = fndB q.g n x'.i ∧ (XV.fz q.n 17 fun (i : Nat) => (hostX (q.g i))) = sqH q ∧ (↑q.n : Int) = (↑q.n : Int) ∧ (↑x.i : Int) + (1 : Int) = (↑x'.i : Int) ∧ (((38 : TypeId) = (38 : TypeId) ∧ true = true ∧ (21 : Nat) = (21 : Nat)) ∧ lenR (fndN q.g n k x.i) + (1 : Nat) = lenR (fndN q.g n k x'.i) ∧ ∀ (j : Nat), j < lenR (fndN q.g n k x.i) + (1 : Nat) → [XT (bif j.blt (lenR (fndN q.g n k x.i)) then (getR (fndN q.g n k x.i) j).n else n), Bool.rec (XI k) (XI ((getR (fndN q.g n k x.i) j).k)) (j.blt (lenR (fndN q.g n k x.i))), Bool.rec (XI 0) (XI ((getR (fndN q.g n k x.i) j).ttl)) (j.blt (lenR (fndN q.g n k x.i))), X8 (bif j.blt (lenR (fndN q.g n k x.i)) then (getR (fndN q.g n k x.i) j).a.x0 else (0 : Int)), X8 (bif j.blt (lenR (fndN q.g n k x.i)) then (getR (fndN q.g n k x.i) j).a.x1 else (0 : Int)), X8 (bif j.blt (lenR (fndN q.g n k x.i)) then (getR (fndN q.g n k x.i) j).a.x2 else (0 : Int)), X8 (bif j.blt (lenR (fndN q.g n k x.i)) then (getR (fndN q.g n k x.i) j).a.x3 else (0 : Int)), X8 (bif j.blt (lenR (fndN q.g n k x.i)) then (getR (fndN q.g n k x.i) j).a.x4 else (0 : Int)), X8 (bif j.blt (lenR (fndN q.g n k x.i)) then (getR (fndN q.g n k x.i) j).a.x5 else (0 : Int)), X8 (bif j.blt (lenR (fndN q.g n k x.i)) then (getR (fndN q.g n k x.i) j).a.x6 else (0 : Int)), X8 (bif j.blt (lenR (fndN q.g n k x.i)) then (getR (fndN q.g n k x.i) j).a.x7 else (0 : Int)), X8 (bif j.blt (lenR (fndN q.g n k x.i)) then (getR (fndN q.g n k x.i) j).a.x8 else (0 : Int)), X8 (bif j.blt (lenR (fndN q.g n k x.i)) then (getR (fndN q.g n k x.i) j).a.x9 else (0 : Int)), X8 (bif j.blt (lenR (fndN q.g n k x.i)) then (getR (fndN q.g n k x.i) j).a.x10 else (0 : Int)), X8 (bif j.blt (lenR (fndN q.g n k x.i)) then (getR (fndN q.g n k x.i) j).a.x11 else (0 : Int)), X8 (bif j.blt (lenR (fndN q.g n k x.i)) then (getR (fndN q.g n k x.i) j).a.x12 else (0 : Int)), X8 (bif j.blt (lenR (fndN q.g n k x.i)) then (getR (fndN q.g n k x.i) j).a.x13 else (0 : Int)), X8 (bif j.blt (lenR (fndN q.g n k x.i)) then (getR (fndN q.g n k x.i) j).a.x14 else (0 : Int)), X8 (bif j.blt (lenR (fndN q.g n k x.i)) then (getR (fndN q.g n k x.i) j).a.x15 else (0 : Int)), XT (bif j.blt (lenR (fndN q.g n k x.i)) then (getR (fndN q.g n k x.i) j).t else (q.g (↑x.i : Int).toNat).q.g ((0 : Nat))), XT (bif j.blt (lenR (fndN q.g n k x.i)) then (getR (fndN q.g n k x.i) j).d else ⟨#[]⟩)] = (recX (getR (fndN q.g n k x'.i) j))) ∧ True) ∧ ((k == (12 : Int)) = false → in64 ((↑x.i : Int) + (1 : Int)) ∧ ∃ (x' : (fnI q n k).σ), x'.i.le q.n ∧ q.n - x'.i < q.n - x.i ∧ true = true ∧ n = n ∧ k = k ∧ XV.sl 0 21 0 (lenR (fndN q.g n k x.i)) = XV.sl 0 21 0 (lenR (fndN q.g n k x'.i)) ∧ true = fndB q.g n x'.i ∧ (XV.fz q.n 17 fun (i : Nat) => (hostX (q.g i))) = sqH q ∧ (↑q.n : Int) = (↑q.n : Int) ∧ (↑x.i : Int) + (1 : Int) = (↑x'.i : Int) ∧ (((38 : TypeId) = (38 : TypeId) ∧ true = true ∧ (21 : Nat) = (21 : Nat)) ∧ lenR (fndN q.g n k x.i) = lenR (fndN q.g n k x'.i) ∧ ∀ (j : Nat), j < lenR (fndN q.g n k x.i) → (recX (getR (fndN q.g n k x.i) j)) = (recX (getR (fndN q.g n k x'.i) j))) ∧ True)) ∧ (decide ((rev (A16.f (q.g (↑x.i : Int).toNat).a)) = n) = false → (∀ (i : Nat), i < (q.g (↑x.i : Int).toNat).q.n → [XT ((q.g (↑x.i : Int).toNat).q.g i)] = [XT ((q.g (↑x.i : Int).toNat).q.g i)]) ∧ (q.g (↑x.i : Int).toNat).q.n ≤ (1000000 : Nat) ∧ (hasF (q.g (↑x.i : Int).toNat).q.g n (q.g (↑x.i : Int).toNat).q.n = true → (((k == (1 : Int) && is4 (A16.f (q.g (↑x.i : Int).toNat).a)) || k == (28 : Int) && !is4 (A16.f (q.g (↑x.i : Int).toNat).a)) = true → lenR (fndN q.g n k x.i) = lenR (fndN q.g n k x.i) ∧ (lenR (fndN q.g n k x.i) + (1 : Nat)) * (80 : Nat) ≤ (140737488355328 : Nat) ∧ lenR (fndN q.g n k x.i) + (1 : Nat) ≤ (140737488355328 : Nat) ∧ in64 ((↑x.i : Int) + (1 : Int)) ∧ ∃ (x' : (fnI q n k).σ), x'.i.le q.n ∧ q.n - x'.i < q.n - x.i ∧ true = true ∧ n = n ∧ k = k ∧ XV.sl 0 21 0 (lenR (fndN q.g n k x.i) + (1 : Nat)) = XV.sl 0 21 0 (lenR (fndN q.g n k x'.i)) ∧ true = fndB q.g n x'.i ∧ (XV.fz q.n 17 fun (i : Nat) => (hostX (q.g i))) = sqH q ∧ (↑q.n : Int) = (↑q.n : Int) ∧ (↑x.i : Int) + (1 : Int) = (↑x'.i : Int) ∧ (((38 : TypeId) = (38 : TypeId) ∧ true = true ∧ (21 : Nat) = (21 : Nat)) ∧ lenR (fndN q.g n k x.i) + (1 : Nat) = lenR (fndN q.g n k x'.i) ∧ ∀ (j : Nat), j < lenR (fndN q.g n k x.i) + (1 : Nat) → [XT (bif j.blt (lenR (fndN q.g n k x.i)) then (getR (fndN q.g n k x.i) j).n else n), Bool.rec (XI k) (XI ((getR (fndN q.g n k x.i) j).k)) (j.blt (lenR (fndN q.g n k x.i))), Bool.rec (XI 0) (XI ((getR (fndN q.g n k x.i) j).ttl)) (j.blt (lenR (fndN q.g n k x.i))), X8 (bif j.blt (lenR (fndN q.g n k x.i)) then (getR (fndN q.g n k x.i) j).a.x0 else (q.g (↑x.i : Int).toNat).a.x0), X8 (bif j.blt (lenR (fndN q.g n k x.i)) then (getR (fndN q.g n k x.i) j).a.x1 else (q.g (↑x.i : Int).toNat).a.x1), X8 (bif j.blt (lenR (fndN q.g n k x.i)) then (getR (fndN q.g n k x.i) j).a.x2 else (q.g (↑x.i : Int).toNat).a.x2), X8 (bif j.blt (lenR (fndN q.g n k x.i)) then (getR (fndN q.g n k x.i) j).a.x3 else (q.g (↑x.i : Int).toNat).a.x3), X8 (bif j.blt (lenR (fndN q.g n k x.i)) then (getR (fndN q.g n k x.i) j).a.x4 else (q.g (↑x.i : Int).toNat).a.x4), X8 (bif j.blt (lenR (fndN q.g n k x.i)) then (getR (fndN q.g n k x.i) j).a.x5 else (q.g (↑x.i : Int).toNat).a.x5), X8 (bif j.blt (lenR (fndN q.g n k x.i)) then (getR (fndN q.g n k x.i) j).a.x6 else (q.g (↑x.i : Int).toNat).a.x6), X8 (bif j.blt (lenR (fndN q.g n k x.i)) then (getR (fndN q.g n k x.i) j).a.x7 else (q.g (↑x.i : Int).toNat).a.x7), X8 (bif j.blt (lenR (fndN q.g n k x.i)) then (getR (fndN q.g n k x.i) j).a.x8 else (q.g (↑x.i : Int).toNat).a.x8), X8 (bif j.blt (lenR (fndN q.g n k x.i)) then (getR (fndN q.g n k x.i) j).a.x9 else (q.g (↑x.i : Int).toNat).a.x9), X8 (bif j.blt (lenR (fndN q.g n k x.i)) then (getR (fndN q.g n k x.i) j).a.x10 else (q.g (↑x.i : Int).toNat).a.x10), X8 (bif j.blt (lenR (fndN q.g n k x.i)) then (getR (fndN q.g n k x.i) j).a.x11 else (q.g (↑x.i : Int).toNat).a.x11), X8 (bif j.blt (lenR (fndN q.g n k x.i)) then (getR (fndN q.g n k x.i) j).a.x12 else (q.g (↑x.i : Int).toNat).a.x12), X8 (bif j.blt (lenR (fndN q.g n k x.i)) then (getR (fndN q.g n k x.i) j).a.x13 else (q.g (↑x.i : Int).toNat).a.x13), X8 (bif j.blt (lenR (fndN q.g n k x.i)) then (getR (fndN q.g n k x.i) j).a.x14 else (q.g (↑x.i : Int).toNat).a.x14), X8 (bif j.blt (lenR (fndN q.g n k x.i)) then (getR (fndN q.g n k x.i) j).a.x15 else (q.g (↑x.i : Int).toNat).a.x15), XT (bif j.blt (lenR (fndN q.g n k x.i)) then (getR (fndN q.g n k x.i) j).t else ⟨#[]⟩), XT (bif j.blt (lenR (fndN q.g n k x.i)) then (getR (fndN q.g n k x.i) j).d else ⟨#[]⟩)] = (recX (getR (fndN q.g n k x'.i) j))) ∧ True) ∧ (((k == (1 : Int) && is4 (A16.f (q.g (↑x.i : Int).toNat).a)) || k == (28 : Int) && !is4 (A16.f (q.g (↑x.i : Int).toNat).a)) = false → in64 ((↑x.i : Int) + (1 : Int)) ∧ ∃ (x' : (fnI q n k).σ), x'.i.le q.n ∧ q.n - x'.i < q.n - x.i ∧ true = true ∧ n = n ∧ k = k ∧ XV.sl 0 21 0 (lenR (fndN q.g n k x.i)) = XV.sl 0 21 0 (lenR (fndN q.g n k x'.i)) ∧ true = fndB q.g n x'.i ∧ (XV.fz q.n 17 fun (i : Nat) => (hostX (q.g i))) = sqH q ∧ (↑q.n : Int) = (↑q.n : Int) ∧ (↑x.i : Int) + (1 : Int) = (↑x'.i : Int) ∧ (((38 : TypeId) = (38 : TypeId) ∧ true = true ∧ (21 : Nat) = (21 : Nat)) ∧ lenR (fndN q.g n k x.i) = lenR (fndN q.g n k x'.i) ∧ ∀ (j : Nat), j < lenR (fndN q.g n k x.i) → (recX (getR (fndN q.g n k x.i) j)) = (recX (getR (fndN q.g n k x'.i) j))) ∧ True)) ∧ (hasF (q.g (↑x.i : Int).toNat).q.g n (q.g (↑x.i : Int).toNat).q.n = false → in64 ((↑x.i : Int) + (1 : Int)) ∧ ∃ (x' : (fnI q n k).σ), x'.i.le q.n ∧ q.n - x'.i < q.n - x.i ∧ true = true ∧ n = n ∧ k = k ∧ XV.sl 0 21 0 (lenR (fndN q.g n k x.i)) = XV.sl 0 21 0 (lenR (fndN q.g n k x'.i)) ∧ fndB q.g n x.i = fndB q.g n x'.i ∧ (XV.fz q.n 17 fun (i : Nat) => (hostX (q.g i))) = sqH q ∧ (↑q.n : Int) = (↑q.n : Int) ∧ (↑x.i : Int) + (1 : Int) = (↑x'.i : Int) ∧ (((38 : TypeId) = (38 : TypeId) ∧ true = true ∧ (21 : Nat) = (21 : Nat)) ∧ lenR (fndN q.g n k x.i) = lenR (fndN q.g n k x'.i) ∧ ∀ (j : Nat), j < lenR (fndN q.g n k x.i) → (recX (getR (fndN q.g n k x.i) j)) = (recX (getR (fndN q.g n k x'.i) j))) ∧ True))) ∧ (decide ((↑x.i : Int) < (↑q.n : Int)) = false → lenR (fndN q.g n k x.i) = lenR (fndN q.g n k x.i) ∧ (0 : Int) ≤ (0 : Int) ∧ (0 : Int) ≤ imin (↑(lenR (fndN q.g n k x.i)) : Int) 32 ∧ imin (↑(lenR (fndN q.g n k x.i)) : Int) 32 ≤ (↑(lenR (fndN q.g n k x.i)) : Int) ∧ ((21 : Nat) = (21 : Nat) ∧ (imin (↑(lenR (fndN q.g n k x.i)) : Int) 32 - (0 : Int)).toNat = lenR (fndR q n k) ∧ ∀ (j : Nat), j < (imin (↑(lenR (fndN q.g n k x.i)) : Int) 32 - (0 : Int)).toNat → (recX (getR (fndN q.g n k x.i) ((0 : Nat) + j))) = (recX (getR (fndR q n k) j))) ∧ fndB q.g n x.i = fndB q.g n q.n ∧ True)
theorem fnV_eq (q : Sq Hst) (n : ByteArray) (k : Int) : fnV q n k = (funC cxf' Tryz.f12 (mkSc (fnE q n k) (bodyOf Tryz.f12)) [sqH q, XT n, XI k] (.tup [recsL (fndR q n k), XB (fndB q.g n q.n)])) := by kernel_rfl
theorem fndO_len (h : Hst) (n : ByteArray) (k : Int) : (fndO h n k).length ≤ 1 := by
 unfold fndO
 split
 ·split <;> simp
 ·split
  ·split <;> simp
  ·simp
theorem fndN_len (g : Nat → Hst) (n : ByteArray) (k : Int) : ∀ i, lenR (fndN g n k i) ≤ i
 | 0 => Nat.le_refl _
 | i + 1 => by
  have ih := fndN_len g n k i
  have h1 := fndO_len (g i) n k
  unfold lenR at *
  rw [fndN, List.length_append]
  omega
theorem getR_app (o : List Rec) (h : Rec) (j : Nat) (hj : j < lenR o + 1) : getR (o ++ [h]) j = if j < lenR o then getR o j else h := by
 unfold getR lenR at *
 split
 ·rename_i k
  rw [List.getD_eq_getElem?_getD, List.getD_eq_getElem?_getD, List.getElem?_append_left k]
 ·rename_i k
  rw [List.getD_eq_getElem?_getD, List.getElem?_append_right (by omega), show j - o.length = 0 by omega]
  rfl
theorem lenR_app (o : List Rec) (h : Rec) : lenR o + 1 = lenR (o ++ [h]) := by
 unfold lenR
 rw [List.length_append, List.length_singleton]
set_option maxHeartbeats 2000000 in
theorem fn_v (q : Sq Hst) (n : ByteArray) (k : Int) (hn : q.n ≤ 1000000) (hq : ∀ i, i < q.n → b16 (q.g i).a.f ∧ 1 ≤ (q.g i).q.n ∧ (q.g i).q.n ≤ 1000000) : fnV q n k := by
 unfold fnV
 refine ⟨⟨⟨0⟩, Nat.zero_le _, rfl, rfl, rfl, rfl, rfl, rfl, rfl, rfl, ⟨⟨rfl, rfl, rfl⟩, rfl, fun j hj => absurd hj (Nat.not_lt_zero _)⟩, trivial⟩, ?_⟩
 rintro ⟨i⟩ hi
 have hi : i ≤ q.n := hi
 dsimp only
 have hl := fndN_len q.g n k i
 refine ⟨fun h => ?_, fun h => ?_⟩
 ·have h : (i : Int) < q.n := of_decide_eq_true h
  rw [Int.toNat_natCast]
  obtain ⟨g1, g2, g3⟩ := hq i (by omega)
  have hs : fndN q.g n k (i + 1) = fndN q.g n k i ++ fndO (q.g i) n k := rfl
  have hb : fndB q.g n (i + 1) = (fndB q.g n i || fndT (q.g i) n) := rfl
  have no : fndO (q.g i) n k = [] → fndN q.g n k (i + 1) = fndN q.g n k i := fun e => by rw [hs, e, List.append_nil]
  refine ⟨by omega, h, g1, fun h1 => ?_, fun h1 => ?_⟩
  ·have h1' : rev (q.g i).a.f = n := of_decide_eq_true h1
   have ht : true = fndB q.g n (i + 1) := by rw [hb, fndT, h1, Bool.true_or, Bool.or_true]
   refine ⟨fun h2 => ?_, fun h2 => ?_⟩
   ·have e : fndN q.g n k (i + 1) = fndN q.g n k i ++ [⟨n, k, 0, z16, (q.g i).q.g 0, ⟨#[]⟩⟩] := by rw [hs, fndO, if_pos h1', if_pos h2]
    have el : lenR (fndN q.g n k i) + 1 = lenR (fndN q.g n k (i + 1)) := by rw [e]; exact lenR_app _ _
    refine ⟨by decide, by omega, rfl, by omega, by omega, by unfold in64; omega, ⟨i + 1⟩, (show i + 1 ≤ q.n by omega), (show q.n - (i + 1) < q.n - i by omega), rfl, rfl, rfl, congrArg (XV.sl 0 21 0) el, ht, rfl, rfl, rfl, ⟨⟨rfl, rfl, rfl⟩, el, fun j hj => ?_⟩, trivial⟩
    show _ = recX (getR (fndN q.g n k (i + 1)) j)
    rw [e, getR_app _ _ _ hj, bltN]
    by_cases hjl : j < lenR (fndN q.g n k i)
    ·rw [decide_eq_true hjl, if_pos hjl]; kernel_rfl
    ·rw [decide_eq_false hjl, if_neg hjl]; kernel_rfl
   ·have e := no (by rw [fndO, if_pos h1', if_neg (by rw [h2]; decide)])
    exact ⟨by unfold in64; omega, ⟨i + 1⟩, (show i + 1 ≤ q.n by omega), (show q.n - (i + 1) < q.n - i by omega), rfl, rfl, rfl, congrArg (fun o => XV.sl 0 21 0 (lenR o)) e.symm, ht, rfl, rfl, rfl, ⟨⟨rfl, rfl, rfl⟩, congrArg lenR e.symm, fun j _ => congrArg (fun o => recX (getR o j)) e.symm⟩, trivial⟩
  ·have h1' : ¬ rev (q.g i).a.f = n := of_decide_eq_false h1
   refine ⟨fun _ _ => rfl, g3, fun h2 => ?_, fun h2 => ?_⟩
   ·have ht : true = fndB q.g n (i + 1) := by rw [hb, fndT, h2, Bool.or_true, Bool.or_true]
    refine ⟨fun h3 => ?_, fun h3 => ?_⟩
    ·have e : fndN q.g n k (i + 1) = fndN q.g n k i ++ [⟨n, k, 0, (q.g i).a, ⟨#[]⟩, ⟨#[]⟩⟩] := by rw [hs, fndO, if_neg h1', if_pos h2, if_pos (show kdB (q.g i) k = true from h3)]
     have el : lenR (fndN q.g n k i) + 1 = lenR (fndN q.g n k (i + 1)) := by rw [e]; exact lenR_app _ _
     refine ⟨rfl, by omega, by omega, by unfold in64; omega, ⟨i + 1⟩, (show i + 1 ≤ q.n by omega), (show q.n - (i + 1) < q.n - i by omega), rfl, rfl, rfl, congrArg (XV.sl 0 21 0) el, ht, rfl, rfl, rfl, ⟨⟨rfl, rfl, rfl⟩, el, fun j hj => ?_⟩, trivial⟩
     show _ = recX (getR (fndN q.g n k (i + 1)) j)
     rw [e, getR_app _ _ _ hj, bltN]
     by_cases hjl : j < lenR (fndN q.g n k i)
     ·rw [decide_eq_true hjl, if_pos hjl]; kernel_rfl
     ·rw [decide_eq_false hjl, if_neg hjl]; kernel_rfl
    ·have e := no (by rw [fndO, if_neg h1', if_pos h2, if_neg (by rw [show kdB (q.g i) k = false from h3]; decide)])
     exact ⟨by unfold in64; omega, ⟨i + 1⟩, (show i + 1 ≤ q.n by omega), (show q.n - (i + 1) < q.n - i by omega), rfl, rfl, rfl, congrArg (fun o => XV.sl 0 21 0 (lenR o)) e.symm, ht, rfl, rfl, rfl, ⟨⟨rfl, rfl, rfl⟩, congrArg lenR e.symm, fun j _ => congrArg (fun o => recX (getR o j)) e.symm⟩, trivial⟩
   ·have e := no (by rw [fndO, if_neg h1', if_neg (by rw [h2]; decide)])
    have ht : fndB q.g n i = fndB q.g n (i + 1) := by rw [hb, fndT, h1, h2, Bool.or_false, Bool.or_false]
    exact ⟨by unfold in64; omega, ⟨i + 1⟩, (show i + 1 ≤ q.n by omega), (show q.n - (i + 1) < q.n - i by omega), rfl, rfl, rfl, congrArg (fun o => XV.sl 0 21 0 (lenR o)) e.symm, ht, rfl, rfl, rfl, ⟨⟨rfl, rfl, rfl⟩, congrArg lenR e.symm, fun j _ => congrArg (fun o => recX (getR o j)) e.symm⟩, trivial⟩
 ·have h : ¬ (i : Int) < q.n := of_decide_eq_false h
  obtain rfl : i = q.n := by omega
  have hm : imin ((lenR (fndN q.g n k q.n) : Nat) : Int) 32 = ((min (lenR (fndN q.g n k q.n)) 32 : Nat) : Int) := by unfold imin; split <;> omega
  have hr : lenR (fndR q n k) = min (lenR (fndN q.g n k q.n)) 32 := by
   unfold lenR fndR
   rw [List.length_take, Nat.min_comm]
  rw [hm]
  refine ⟨rfl, by decide, by omega, by omega, ⟨rfl, by rw [hr]; omega, fun j hj => ?_⟩, rfl, trivial⟩
  show recX (getR (fndN q.g n k q.n) (0 + j)) = recX (getR (fndR q n k) j)
  rw [Nat.zero_add]
  have : getR (fndR q n k) j = getR (fndN q.g n k q.n) j := by
   unfold getR fndR
   rw [List.getD_eq_getElem?_getD, List.getD_eq_getElem?_getD, List.getElem?_take_of_lt (by omega)]
  rw [this]
def fnC : CT := C3 dHs dStr dInt (fun q _ _ => [q.n ≤ 1000000, ∀ i, i < q.n → b16 (q.g i).a.f ∧ 1 ≤ (q.g i).q.n ∧ (q.g i).q.n ≤ 1000000]) fun q n k => .tup [recsL (fndR q n k), XB (fndB q.g n q.n)]
theorem fn_ok : CTok Tryz.prog 12 fnC := C3_ok ((cx0_ok.addC is4L_ok).addC has_ok |>.addC rev_ok) Tryz.func12 rfl (by decide) dSl_ok dStr_eq.ok dInt_eq.ok (by kernel_rfl) (fun _ _ _ => rfl) fun q n k hc => exv (fnV_eq q n k) (fn_v q n k (hc _ (.head _)) (hc _ (.tail _ (.head _))))
end Go.Proofs.YtkjcoehblekpdaaGreatDoorAv
namespace Go.Proofs.YtkjcoehblekpdaaGreatDoorAv
open Go Go.RowKit
theorem prsN_mem (l : List ByteArray) : ∀ i, ∀ h ∈ prsN l i, ∃ j, j < i ∧ lnOk (words (l.getD j ⟨#[]⟩)) = true ∧ h = lnH (words (l.getD j ⟨#[]⟩))
 | 0, h, hm => by cases hm
 | i + 1, h, hm => by
  unfold prsN putH at hm
  split at hm
  ·rename_i k
   rcases List.mem_append.1 hm with hm | hm
   ·obtain ⟨j, hj, e⟩ := prsN_mem l i h hm
    exact ⟨j, by omega, e⟩
   ·exact ⟨i, by omega, k.2, List.mem_singleton.1 hm⟩
  ·obtain ⟨j, hj, e⟩ := prsN_mem l i h hm
   exact ⟨j, by omega, e⟩
theorem lnH_b (w : List ByteArray) : b16 (lnH w).a.f := b16_l (parA_b _)
structure Red (n : Nat) (h : Hst) : Prop where
 b : b16 h.a.f
 one : 1 ≤ h.q.n
 le : h.q.n ≤ n
 out : ∀ i, i < h.q.n → ∃ x, (toA x).2 = 0 ∧ h.q.g i = (toA x).1
theorem lnH_red (n : Nat) (w : List ByteArray) (h1 : lnOk w = true) (hl : w.length ≤ n + 1) : Red n (lnH w) := by
 unfold lnOk at h1
 rw [Bool.and_eq_true, Bool.and_eq_true, decide_eq_true_eq, decide_eq_true_eq] at h1
 obtain ⟨h1, h2, h3⟩ := h1
 have e : (lnH w).q.n = w.length - 1 := rfl
 refine ⟨lnH_b _, by rw [e]; omega, by rw [e]; omega, fun i hi => ?_⟩
 rw [e] at hi
 have h4 := oksN_le _ _ (i + 1) (by omega) h3
 rw [oksN, Bool.and_eq_true, decide_eq_true_eq] at h4
 exact ⟨_, h4.2, rfl⟩
theorem prsH_red (s : ByteArray) : ∀ h ∈ prsH s, Red s.size h := fun h hm => by
 obtain ⟨j, hj, h1, rfl⟩ := prsN_mem _ _ h hm
 have hsz : ((linesS s).getD j ⟨#[]⟩).size ≤ s.size := getD_all (P := fun x : ByteArray => x.size ≤ s.size) (Nat.zero_le _) (fun x hx => splitS_each s 10 x hx) j
 have hl := words_len ((linesS s).getD j ⟨#[]⟩)
 exact lnH_red _ _ h1 (by omega)
theorem getH_mem {l : List Hst} {i : Nat} (h : i < lenH l) : getH l i ∈ l := by
 unfold getH lenH at *
 rw [List.getD_eq_getElem?_getD, List.getElem?_eq_getElem h]
 exact List.getElem_mem _
theorem prsH_at (s : ByteArray) (i : Nat) (h : i < lenH (prsH s)) : Red s.size (getH (prsH s) i) := prsH_red s _ (getH_mem h)
theorem prsH_len (s : ByteArray) : lenH (prsH s) ≤ 64 := lenH_prsN _ _
theorem prsH_fn (s : ByteArray) (hs : s.size ≤ 1000000) : ∀ i, i < lenH (prsH s) → b16 (getH (prsH s) i).a.f ∧ 1 ≤ (getH (prsH s) i).q.n ∧ (getH (prsH s) i).q.n ≤ 1000000 := fun i hi => by
 have h := prsH_at s i hi
 exact ⟨h.b, h.one, by have := h.le; omega⟩
def fndS (l : List Hst) : Sq Hst := ⟨lenH l, getH l⟩
def cx1 : Cx := { cx0 with C := [(11, prsC), (12, fnC), (19, is4L), (20, dotC)] }
theorem cx1_ok : cx1.ok Tryz.prog := (((cx0_ok.addC dot_ok).addC is4L_ok).addC fn_ok).addC prs_ok
def hfitV_a :=
 (prsH ⟨#[49, 50, 55, 46, 48, 46, 48, 46, 49, 9, 108, 111, 99, 97, 108, 104, 111, 115, 116, 32, 108, 111, 32, 35, 32, 120]⟩)
def hfitV_b :=
 (getR (fndR { n := lenH hfitV_a, g := getH hfitV_a : Sq Hst } ⟨#[108, 111]⟩ 1) ((0 : Nat)))
def hfitV_c :=
 (↑(lenR (fndR { n := lenH hfitV_a, g := fun (i : Nat) => rH ((fun (i : Nat) => hostX (getH hfitV_a i)) i) : Sq Hst } ⟨#[108, 111]⟩ 1)) : Int)
def hfitV  : Prop :=
 (26 : Nat) ≤ (1000000 : Nat) ∧ (∀ (i : Nat), i < lenH hfitV_a → (hostX (getH hfitV_a i)) = (hostX (getH hfitV_a i))) ∧ lenH hfitV_a ≤ (1000000 : Nat) ∧ (∀ (i : Nat), i < lenH hfitV_a → b16 (getH hfitV_a i).a.f ∧ (1 : Nat) ≤ (getH hfitV_a i).q.n ∧ (getH hfitV_a i).q.n ≤ (1000000 : Nat)) ∧ (((↑(lenH hfitV_a) : Int) == (1 : Int) && hfitV_c == (1 : Int) && fndB (getH hfitV_a) ⟨#[108, 111]⟩ (lenH hfitV_a)) = true → (0 : Int) ≤ (0 : Int)) ∧ (((↑(lenH hfitV_a) : Int) == (1 : Int) && hfitV_c == (1 : Int) && fndB (getH hfitV_a) ⟨#[108, 111]⟩ (lenH hfitV_a)) = true → (0 : Int) < hfitV_c) ∧ (((↑(lenH hfitV_a) : Int) == (1 : Int) && hfitV_c == (1 : Int) && fndB (getH hfitV_a) ⟨#[108, 111]⟩ (lenH hfitV_a) && is4 fun (i : Nat) => [hfitV_b.a.x0, hfitV_b.a.x1, hfitV_b.a.x2, hfitV_b.a.x3, hfitV_b.a.x4, hfitV_b.a.x5, hfitV_b.a.x6, hfitV_b.a.x7, hfitV_b.a.x8, hfitV_b.a.x9, hfitV_b.a.x10, hfitV_b.a.x11, hfitV_b.a.x12, hfitV_b.a.x13, hfitV_b.a.x14, hfitV_b.a.x15].getD i 0) && cntB ⟨#[97, 46, 98]⟩ ⟨#[46]⟩ == (1 : Int)) = true
theorem hfitV_eq  : hfitV  = (funC cx1 Tryz.f9 .nil [] (XB true)) := by kernel_rfl
def fitT : ByteArray := ⟨#[49, 50, 55, 46, 48, 46, 48, 46, 49, 9, 108, 111, 99, 97, 108, 104, 111, 115, 116, 32, 108, 111, 32, 35, 32, 120]⟩
theorem hfit_d : lenH (prsH fitT) = 1 ∧ lenR (fndR (fndS (prsH fitT)) ⟨#[108, 111]⟩ 1) = 1 ∧ fndB (getH (prsH fitT)) ⟨#[108, 111]⟩ (lenH (prsH fitT)) = true ∧ is4 (getR (fndR (fndS (prsH fitT)) ⟨#[108, 111]⟩ 1) 0).a.f = true ∧ cntB ⟨#[97, 46, 98]⟩ ⟨#[46]⟩ = 1 := by decide +kernel
theorem hfit_v : hfitV := by
 unfold hfitV hfitV_c hfitV_b hfitV_a
 obtain ⟨h1, h2, h3, h4, h5⟩ := hfit_d
 have h6 := prsH_fn fitT (by decide)
 refine ⟨by decide, fun _ _ => rfl, ?_, h6, fun _ => by decide, fun _ => ?_, ?_⟩
 ·show lenH (prsH fitT) ≤ 1000000
  rw [h1]; decide
 ·show (0 : Int) < (lenR (fndR (fndS (prsH fitT)) ⟨#[108, 111]⟩ 1) : Int)
  rw [h2]; decide
 ·show (((((lenH (prsH fitT) : Nat) : Int) == 1 && ((lenR (fndR (fndS (prsH fitT)) ⟨#[108, 111]⟩ 1) : Nat) : Int) == 1 && fndB (getH (prsH fitT)) ⟨#[108, 111]⟩ (lenH (prsH fitT)) && is4 (getR (fndR (fndS (prsH fitT)) ⟨#[108, 111]⟩ 1) 0).a.f) && cntB ⟨#[97, 46, 98]⟩ ⟨#[46]⟩ == 1)) = true
  rw [h3, h1, h2, h4, h5]
  rfl
def hfitC : CT := C0 [] (XB true)
theorem hfit_ok : CTok Tryz.prog 9 hfitC := C0_ok cx1_ok Tryz.func9 rfl (by decide) rfl fun _ => exv hfitV_eq hfit_v
def ligV (s : ByteArray) : Prop :=
 decide ((↑s.size : Int) ≤ (2000 : Int)) = decide ((↑s.size : Int) ≤ (2000 : Int))
theorem ligV_eq (s : ByteArray) : ligV s = (funC cx0 Tryz.f10 .nil [XT s] (XB (decide ((s.size : Int) ≤ 2000)))) := by kernel_rfl
theorem lig_v (s : ByteArray) : ligV s := rfl
def ligC : CT := C1 dStr (fun _ => []) fun s => XB (decide ((s.size : Int) ≤ 2000))
theorem lig_ok : CTok Tryz.prog 10 ligC := C1_ok cx0_ok Tryz.func10 rfl (by decide) dStr_eq.ok (by kernel_rfl) (fun _ => rfl) fun s _ => exv (ligV_eq s) (lig_v s)
end Go.Proofs.YtkjcoehblekpdaaGreatDoorAv
namespace Go.Proofs.YtkjcoehblekpdaaGreatDoorAv
open Go Go.RowKit
def cx2 : Cx := { cx0 with C := [(9, hfitC), (10, ligC), (11, prsC), (12, fnC)] }
theorem cx2_ok : cx2.ok Tryz.prog := (((cx0_ok.addC fn_ok).addC prs_ok).addC lig_ok).addC hfit_ok
def fdL (s n : ByteArray) (k : Int) : List Rec := fndR (fndS (prsH s)) n k
def tyI (s n : ByteArray) (k : Int) : Inv where
 σ := IL
 S := fun x => ⟨[(1, XT n), (2, XI k), (7, recsL (fdL s n k)), (8, XB (fndB (getH (prsH s)) n (lenH (prsH s)))), (29, recsL (fdL s n k)), (30, XI (lenR (fdL s n k))), (31, XI x.i)], [], 0, false, []⟩
 inv := fun x => x.i ≤ lenR (fdL s n k)
 μ := fun x => lenR (fdL s n k) - x.i
def tyE (s n : ByteArray) (k : Int) : Env := { loops := [(0, tyI s n k)] }
def tyV (s n : ByteArray) (k : Int) : Prop :=
 ((!true) = true → false = true) ∧ ((!true) = false → ((!decide ((↑s.size : Int) ≤ (2000 : Int)) || decide ((↑n.size : Int) > (300 : Int))) = true → true = true) ∧ ((!decide ((↑s.size : Int) ≤ (2000 : Int)) || decide ((↑n.size : Int) > (300 : Int))) = false → s.size ≤ (1000000 : Nat) ∧ (∀ (i : Nat), i < lenH (prsH s) → (hostX (getH (prsH s) i)) = (hostX (getH (prsH s) i))) ∧ lenH (prsH s) ≤ (1000000 : Nat) ∧ (∀ (i : Nat), i < lenH (prsH s) → b16 (getH (prsH s) i).a.f ∧ (1 : Nat) ≤ (getH (prsH s) i).q.n ∧ (getH (prsH s) i).q.n ≤ (1000000 : Nat)) ∧ (∃ (x : (tyI s n k).σ), x.i.le (lenR (fdL s n k)) ∧ true = true ∧ n = n ∧ k = k ∧ ((XV.fz (lenR (fndR { n := lenH (prsH s), g := getH (prsH s) : Sq Hst } n k)) 21 fun (i : Nat) => (recX (getR (fndR { n := lenH (prsH s), g := getH (prsH s) : Sq Hst } n k) i))) = XV.fz (lenR (fdL s n k)) 21 fun (i : Nat) => (recX (getR (fdL s n k) i))) ∧ fndB (getH (prsH s)) n (lenH (prsH s)) = fndB (getH (prsH s)) n (lenH (prsH s)) ∧ ((XV.fz (lenR (fndR { n := lenH (prsH s), g := getH (prsH s) : Sq Hst } n k)) 21 fun (i : Nat) => (recX (getR (fndR { n := lenH (prsH s), g := getH (prsH s) : Sq Hst } n k) i))) = XV.fz (lenR (fdL s n k)) 21 fun (i : Nat) => (recX (getR (fdL s n k) i))) ∧ (↑(lenR (fndR { n := lenH (prsH s), g := getH (prsH s) : Sq Hst } n k)) : Int) = (↑(lenR (fdL s n k)) : Int) ∧ (0 : Int) = (↑x.i : Int) ∧ True) ∧ ∀ (x : IL), x.i.le (lenR (fdL s n k)) → (decide ((↑x.i : Int) < (↑(lenR (fdL s n k)) : Int)) = true → (0 : Int) ≤ (↑x.i : Int) ∧ (↑x.i : Int) < (↑(lenR (fdL s n k)) : Int) ∧ ((!decide ((getR (fdL s n k) (↑x.i : Int).toNat).n = n) || (getR (fdL s n k) (↑x.i : Int).toNat).k != k || (getR (fdL s n k) (↑x.i : Int).toNat).ttl != (0 : Int) || !decide ((getR (fdL s n k) (↑x.i : Int).toNat).d = ⟨#[]⟩)) = true → false = true) ∧ ((!decide ((getR (fdL s n k) (↑x.i : Int).toNat).n = n) || (getR (fdL s n k) (↑x.i : Int).toNat).k != k || (getR (fdL s n k) (↑x.i : Int).toNat).ttl != (0 : Int) || !decide ((getR (fdL s n k) (↑x.i : Int).toNat).d = ⟨#[]⟩)) = false → in64 ((↑x.i : Int) + (1 : Int)) ∧ ∃ (x' : (tyI s n k).σ), x'.i.le (lenR (fdL s n k)) ∧ lenR (fdL s n k) - x'.i < lenR (fdL s n k) - x.i ∧ true = true ∧ n = n ∧ k = k ∧ ((XV.fz (lenR (fdL s n k)) 21 fun (i : Nat) => (recX (getR (fdL s n k) i))) = XV.fz (lenR (fdL s n k)) 21 fun (i : Nat) => (recX (getR (fdL s n k) i))) ∧ fndB (getH (prsH s)) n (lenH (prsH s)) = fndB (getH (prsH s)) n (lenH (prsH s)) ∧ ((XV.fz (lenR (fdL s n k)) 21 fun (i : Nat) => (recX (getR (fdL s n k) i))) = XV.fz (lenR (fdL s n k)) 21 fun (i : Nat) => (recX (getR (fdL s n k) i))) ∧ (↑(lenR (fdL s n k)) : Int) = (↑(lenR (fdL s n k)) : Int) ∧ (↑x.i : Int) + (1 : Int) = (↑x'.i : Int) ∧ True)) ∧ (decide ((↑x.i : Int) < (↑(lenR (fdL s n k)) : Int)) = false → (fndB (getH (prsH s)) n (lenH (prsH s)) || (↑(lenR (fdL s n k)) : Int) == (0 : Int)) = true)))
theorem tyV_eq (s n : ByteArray) (k : Int) : tyV s n k = (funC cx2 Tryz.f6 (mkSc (tyE s n k) (bodyOf Tryz.f6)) [XT s, XT n, XI k] (XB true)) := by kernel_rfl
def both (a b : ByteArray) : ByteArray := a ++ ⟨#[10]⟩ ++ b
def liI (a b : ByteArray) : Inv where
 σ := IL
 S := fun x => ⟨[(5, hostsL (prsH a)), (6, hostsL (prsH b)), (7, hostsL (prsH (both a b))), (39, hostsL (prsH (both a b))), (40, XI (lenH (prsH (both a b)))), (41, XI x.i)], [], 0, false, []⟩
 inv := fun x => x.i ≤ lenH (prsH (both a b)) ∧ lenH (prsH (both a b)) ≤ lenH (prsH a) + lenH (prsH b)
 μ := fun x => lenH (prsH (both a b)) - x.i
def liE (a b : ByteArray) : Env := { loops := [(0, liI a b)] }
def liV_a (a : ByteArray) (b : ByteArray) (x : IL) :=
 (!(((getH (prsH (both a b)) (↑x.i : Int).toNat).a.x0 == bif ((0 : Nat) + (↑x.i : Int).toNat).blt (lenH (prsH a)) then (getH (prsH a) ((0 : Nat) + (↑x.i : Int).toNat)).a.x0 else (getH (prsH b) ((0 : Nat) + (↑x.i : Int).toNat - lenH (prsH a))).a.x0) && (((getH (prsH (both a b)) (↑x.i : Int).toNat).a.x1 == bif ((0 : Nat) + (↑x.i : Int).toNat).blt (lenH (prsH a)) then (getH (prsH a) ((0 : Nat) + (↑x.i : Int).toNat)).a.x1 else (getH (prsH b) ((0 : Nat) + (↑x.i : Int).toNat - lenH (prsH a))).a.x1) && (((getH (prsH (both a b)) (↑x.i : Int).toNat).a.x2 == bif ((0 : Nat) + (↑x.i : Int).toNat).blt (lenH (prsH a)) then (getH (prsH a) ((0 : Nat) + (↑x.i : Int).toNat)).a.x2 else (getH (prsH b) ((0 : Nat) + (↑x.i : Int).toNat - lenH (prsH a))).a.x2) && (((getH (prsH (both a b)) (↑x.i : Int).toNat).a.x3 == bif ((0 : Nat) + (↑x.i : Int).toNat).blt (lenH (prsH a)) then (getH (prsH a) ((0 : Nat) + (↑x.i : Int).toNat)).a.x3 else (getH (prsH b) ((0 : Nat) + (↑x.i : Int).toNat - lenH (prsH a))).a.x3) && (((getH (prsH (both a b)) (↑x.i : Int).toNat).a.x4 == bif ((0 : Nat) + (↑x.i : Int).toNat).blt (lenH (prsH a)) then (getH (prsH a) ((0 : Nat) + (↑x.i : Int).toNat)).a.x4 else (getH (prsH b) ((0 : Nat) + (↑x.i : Int).toNat - lenH (prsH a))).a.x4) && (((getH (prsH (both a b)) (↑x.i : Int).toNat).a.x5 == bif ((0 : Nat) + (↑x.i : Int).toNat).blt (lenH (prsH a)) then (getH (prsH a) ((0 : Nat) + (↑x.i : Int).toNat)).a.x5 else (getH (prsH b) ((0 : Nat) + (↑x.i : Int).toNat - lenH (prsH a))).a.x5) && (((getH (prsH (both a b)) (↑x.i : Int).toNat).a.x6 == bif ((0 : Nat) + (↑x.i : Int).toNat).blt (lenH (prsH a)) then (getH (prsH a) ((0 : Nat) + (↑x.i : Int).toNat)).a.x6 else (getH (prsH b) ((0 : Nat) + (↑x.i : Int).toNat - lenH (prsH a))).a.x6) && (((getH (prsH (both a b)) (↑x.i : Int).toNat).a.x7 == bif ((0 : Nat) + (↑x.i : Int).toNat).blt (lenH (prsH a)) then (getH (prsH a) ((0 : Nat) + (↑x.i : Int).toNat)).a.x7 else (getH (prsH b) ((0 : Nat) + (↑x.i : Int).toNat - lenH (prsH a))).a.x7) && (((getH (prsH (both a b)) (↑x.i : Int).toNat).a.x8 == bif ((0 : Nat) + (↑x.i : Int).toNat).blt (lenH (prsH a)) then (getH (prsH a) ((0 : Nat) + (↑x.i : Int).toNat)).a.x8 else (getH (prsH b) ((0 : Nat) + (↑x.i : Int).toNat - lenH (prsH a))).a.x8) && (((getH (prsH (both a b)) (↑x.i : Int).toNat).a.x9 == bif ((0 : Nat) + (↑x.i : Int).toNat).blt (lenH (prsH a)) then (getH (prsH a) ((0 : Nat) + (↑x.i : Int).toNat)).a.x9 else (getH (prsH b) ((0 : Nat) + (↑x.i : Int).toNat - lenH (prsH a))).a.x9) && (((getH (prsH (both a b)) (↑x.i : Int).toNat).a.x10 == bif ((0 : Nat) + (↑x.i : Int).toNat).blt (lenH (prsH a)) then (getH (prsH a) ((0 : Nat) + (↑x.i : Int).toNat)).a.x10 else (getH (prsH b) ((0 : Nat) + (↑x.i : Int).toNat - lenH (prsH a))).a.x10) && (((getH (prsH (both a b)) (↑x.i : Int).toNat).a.x11 == bif ((0 : Nat) + (↑x.i : Int).toNat).blt (lenH (prsH a)) then (getH (prsH a) ((0 : Nat) + (↑x.i : Int).toNat)).a.x11 else (getH (prsH b) ((0 : Nat) + (↑x.i : Int).toNat - lenH (prsH a))).a.x11) && (((getH (prsH (both a b)) (↑x.i : Int).toNat).a.x12 == bif ((0 : Nat) + (↑x.i : Int).toNat).blt (lenH (prsH a)) then (getH (prsH a) ((0 : Nat) + (↑x.i : Int).toNat)).a.x12 else (getH (prsH b) ((0 : Nat) + (↑x.i : Int).toNat - lenH (prsH a))).a.x12) && (((getH (prsH (both a b)) (↑x.i : Int).toNat).a.x13 == bif ((0 : Nat) + (↑x.i : Int).toNat).blt (lenH (prsH a)) then (getH (prsH a) ((0 : Nat) + (↑x.i : Int).toNat)).a.x13 else (getH (prsH b) ((0 : Nat) + (↑x.i : Int).toNat - lenH (prsH a))).a.x13) && (((getH (prsH (both a b)) (↑x.i : Int).toNat).a.x14 == bif ((0 : Nat) + (↑x.i : Int).toNat).blt (lenH (prsH a)) then (getH (prsH a) ((0 : Nat) + (↑x.i : Int).toNat)).a.x14 else (getH (prsH b) ((0 : Nat) + (↑x.i : Int).toNat - lenH (prsH a))).a.x14) && (((getH (prsH (both a b)) (↑x.i : Int).toNat).a.x15 == bif ((0 : Nat) + (↑x.i : Int).toNat).blt (lenH (prsH a)) then (getH (prsH a) ((0 : Nat) + (↑x.i : Int).toNat)).a.x15 else (getH (prsH b) ((0 : Nat) + (↑x.i : Int).toNat - lenH (prsH a))).a.x15) && true)))))))))))))))) || (↑(getH (prsH (both a b)) (↑x.i : Int).toNat).q.n : Int) != (↑(bif ((0 : Nat) + (↑x.i : Int).toNat).blt (lenH (prsH a)) then (getH (prsH a) ((0 : Nat) + (↑x.i : Int).toNat)).q.n else (getH (prsH b) ((0 : Nat) + (↑x.i : Int).toNat - lenH (prsH a))).q.n) : Int))
def liV (a b : ByteArray) : Prop :=
 ((!true) = true → false = true) ∧ ((!true) = false → ((!decide ((↑a.size : Int) ≤ (2000 : Int)) || !decide ((↑b.size : Int) ≤ (2000 : Int))) = true → true = true) ∧ ((!decide ((↑a.size : Int) ≤ (2000 : Int)) || !decide ((↑b.size : Int) ≤ (2000 : Int))) = false → a.size ≤ (1000000 : Nat) ∧ b.size ≤ (1000000 : Nat) ∧ a.size + (1 : Nat) ≤ (9223372036854775807 : Nat) ∧ (a ++ ⟨#[10]⟩).size + b.size ≤ (9223372036854775807 : Nat) ∧ (a ++ ⟨#[10]⟩ ++ b).size ≤ (1000000 : Nat) ∧ in64 ((↑(lenH (prsH a)) : Int) + (↑(lenH (prsH b)) : Int)) ∧ (((↑(lenH (prsH (a ++ ⟨#[10]⟩ ++ b))) : Int) != imin ((↑(lenH (prsH a)) : Int) + (↑(lenH (prsH b)) : Int)) 64) = true → false = true) ∧ (((↑(lenH (prsH (a ++ ⟨#[10]⟩ ++ b))) : Int) != imin ((↑(lenH (prsH a)) : Int) + (↑(lenH (prsH b)) : Int)) 64) = false → (∃ (x : (liI a b).σ), (x.i ≤ lenH (prsH (both a b)) ∧ lenH (prsH (both a b)) ≤ lenH (prsH a) + lenH (prsH b)) ∧ true = true ∧ ((XV.fz (lenH (prsH a)) 17 fun (i : Nat) => (hostX (getH (prsH a) i))) = XV.fz (lenH (prsH a)) 17 fun (i : Nat) => (hostX (getH (prsH a) i))) ∧ ((XV.fz (lenH (prsH b)) 17 fun (i : Nat) => (hostX (getH (prsH b) i))) = XV.fz (lenH (prsH b)) 17 fun (i : Nat) => (hostX (getH (prsH b) i))) ∧ ((XV.fz (lenH (prsH (a ++ ⟨#[10]⟩ ++ b))) 17 fun (i : Nat) => (hostX (getH (prsH (a ++ ⟨#[10]⟩ ++ b)) i))) = XV.fz (lenH (prsH (both a b))) 17 fun (i : Nat) => (hostX (getH (prsH (both a b)) i))) ∧ ((XV.fz (lenH (prsH (a ++ ⟨#[10]⟩ ++ b))) 17 fun (i : Nat) => (hostX (getH (prsH (a ++ ⟨#[10]⟩ ++ b)) i))) = XV.fz (lenH (prsH (both a b))) 17 fun (i : Nat) => (hostX (getH (prsH (both a b)) i))) ∧ (↑(lenH (prsH (a ++ ⟨#[10]⟩ ++ b))) : Int) = (↑(lenH (prsH (both a b))) : Int) ∧ (0 : Int) = (↑x.i : Int) ∧ True) ∧ ∀ (x : IL), x.i ≤ lenH (prsH (both a b)) ∧ lenH (prsH (both a b)) ≤ lenH (prsH a) + lenH (prsH b) → (decide ((↑x.i : Int) < (↑(lenH (prsH (both a b))) : Int)) = true → (0 : Int) ≤ (↑x.i : Int) ∧ (↑x.i : Int) < (↑(lenH (prsH (both a b))) : Int) ∧ lenH (prsH a) * (40 : Nat) ≤ (140737488355328 : Nat) ∧ lenH (prsH a) ≤ (140737488355328 : Nat) ∧ lenH (prsH a) = lenH (prsH a) ∧ (lenH (prsH a) + lenH (prsH b)) * (40 : Nat) ≤ (140737488355328 : Nat) ∧ lenH (prsH a) + lenH (prsH b) ≤ (140737488355328 : Nat) ∧ (0 : Int) ≤ (↑x.i : Int) ∧ (↑x.i : Int) < (↑(lenH (prsH a) + lenH (prsH b)) : Int) ∧ (0 : Nat) + (↑x.i : Int).toNat < lenH (prsH a) + lenH (prsH b) ∧ ((liV_a a b x) = true → false = true) ∧ ((liV_a a b x) = false → in64 ((↑x.i : Int) + (1 : Int)) ∧ ∃ (x' : (liI a b).σ), (x'.i ≤ lenH (prsH (both a b)) ∧ lenH (prsH (both a b)) ≤ lenH (prsH a) + lenH (prsH b)) ∧ lenH (prsH (both a b)) - x'.i < lenH (prsH (both a b)) - x.i ∧ true = true ∧ ((XV.fz (lenH (prsH a)) 17 fun (i : Nat) => (hostX (getH (prsH a) i))) = XV.fz (lenH (prsH a)) 17 fun (i : Nat) => (hostX (getH (prsH a) i))) ∧ ((XV.fz (lenH (prsH b)) 17 fun (i : Nat) => (hostX (getH (prsH b) i))) = XV.fz (lenH (prsH b)) 17 fun (i : Nat) => (hostX (getH (prsH b) i))) ∧ ((XV.fz (lenH (prsH (both a b))) 17 fun (i : Nat) => (hostX (getH (prsH (both a b)) i))) = XV.fz (lenH (prsH (both a b))) 17 fun (i : Nat) => (hostX (getH (prsH (both a b)) i))) ∧ ((XV.fz (lenH (prsH (both a b))) 17 fun (i : Nat) => (hostX (getH (prsH (both a b)) i))) = XV.fz (lenH (prsH (both a b))) 17 fun (i : Nat) => (hostX (getH (prsH (both a b)) i))) ∧ (↑(lenH (prsH (both a b))) : Int) = (↑(lenH (prsH (both a b))) : Int) ∧ (↑x.i : Int) + (1 : Int) = (↑x'.i : Int) ∧ True)) ∧ (decide ((↑x.i : Int) < (↑(lenH (prsH (both a b))) : Int)) = false → true = true))))
theorem liV_eq (a b : ByteArray) : liV a b = (funC cx2 Tryz.f3 (mkSc (liE a b) (bodyOf Tryz.f3)) [XT a, XT b] (XB true)) := by kernel_rfl
theorem fndN_all {P : Rec → Prop} (g : Nat → Hst) (n : ByteArray) (k : Int) (hP : ∀ h, ∀ r ∈ fndO h n k, P r) : ∀ i, ∀ r ∈ fndN g n k i, P r
 | 0, r, h => by cases h
 | i + 1, r, h => by
  rw [fndN] at h
  rcases List.mem_append.1 h with h | h
  ·exact fndN_all g n k hP i r h
  ·exact hP _ r h
theorem fndO_rec (h : Hst) (n : ByteArray) (k : Int) : ∀ r ∈ fndO h n k, r.n = n ∧ r.k = k ∧ r.ttl = 0 ∧ r.d = ⟨#[]⟩ := fun r hr => by
 unfold fndO at hr
 split at hr
 ·split at hr
  ·obtain rfl := List.mem_singleton.1 hr; exact ⟨rfl, rfl, rfl, rfl⟩
  ·cases hr
 ·split at hr
  ·split at hr
   ·obtain rfl := List.mem_singleton.1 hr; exact ⟨rfl, rfl, rfl, rfl⟩
   ·cases hr
  ·cases hr
theorem getR_mem {l : List Rec} {i : Nat} (h : i < lenR l) : getR l i ∈ l := by
 unfold getR lenR at *
 rw [List.getD_eq_getElem?_getD, List.getElem?_eq_getElem h]
 exact List.getElem_mem _
theorem fndR_mem {q : Sq Hst} {n : ByteArray} {k : Int} {r : Rec} (h : r ∈ fndR q n k) : r ∈ fndN q.g n k q.n := List.mem_of_mem_take h
theorem fndN_none (g : Nat → Hst) (n : ByteArray) (k : Int) : ∀ i, fndB g n i = false → fndN g n k i = []
 | 0, _ => rfl
 | i + 1, h => by
  rw [fndB, Bool.or_eq_false_iff, fndT, Bool.or_eq_false_iff] at h
  rw [fndN, fndN_none g n k i h.1, fndO, if_neg (of_decide_eq_false h.2.1), if_neg (by rw [h.2.2]; decide)]
  rfl
theorem ty_v (s n : ByteArray) (k : Int) : tyV s n k := by
 unfold tyV
 refine ⟨fun h => absurd h (by decide), fun _ => ⟨fun _ => rfl, fun h => ?_⟩⟩
 rw [Bool.or_eq_false_iff] at h
 have h1 : decide ((s.size : Int) ≤ 2000) = true := by simpa using h.1
 have h1 : (s.size : Int) ≤ 2000 := of_decide_eq_true h1
 refine ⟨by omega, fun _ _ => rfl, by have := prsH_len s; omega, prsH_fn s (by omega), ⟨⟨0⟩, Nat.zero_le _, rfl, rfl, rfl, rfl, rfl, rfl, rfl, rfl, trivial⟩, ?_⟩
 rintro ⟨i⟩ hi
 have hi : i ≤ lenR (fdL s n k) := hi
 have h32 : lenR (fdL s n k) ≤ 32 := by unfold lenR fdL fndR; rw [List.length_take]; omega
 dsimp only
 refine ⟨fun h2 => ?_, fun h2 => ?_⟩
 ·have h2 : (i : Int) < lenR (fdL s n k) := of_decide_eq_true h2
  rw [Int.toNat_natCast]
  have hm := fndN_all _ n k (fun h => fndO_rec h n k) _ _ (fndR_mem (getR_mem (l := fdL s n k) (i := i) (by omega)))
  obtain ⟨e1, e2, e3, e4⟩ := hm
  rw [e1, e2, e3, e4]
  refine ⟨by omega, h2, fun h3 => ?_, fun _ => ⟨by unfold in64; omega, ⟨i + 1⟩, (show i + 1 ≤ lenR (fdL s n k) by omega), (show lenR (fdL s n k) - (i + 1) < lenR (fdL s n k) - i by omega), rfl, rfl, rfl, rfl, rfl, rfl, rfl, rfl, trivial⟩⟩
  simp at h3
 ·show (fndB (getH (prsH s)) n (lenH (prsH s)) || ((lenR (fdL s n k) : Nat) : Int) == 0) = true
  cases hb : fndB (getH (prsH s)) n (lenH (prsH s)) with
  | true => rfl
  | false =>
   have e : fdL s n k = [] := by
    have := fndN_none (getH (prsH s)) n k _ hb
    unfold fdL fndR
    rw [show (fndS (prsH s)).g = getH (prsH s) from rfl, show (fndS (prsH s)).n = lenH (prsH s) from rfl, this]
    rfl
   rw [e]
   rfl
def lnsL (l : List ByteArray) : List Hst := (l.filter fun x => lnOk (words x)).map fun x => lnH (words x)
theorem lnsL_app (l m : List ByteArray) : lnsL (l ++ m) = lnsL l ++ lnsL m := by unfold lnsL; rw [List.filter_append, List.map_append]
theorem prsN_eq (l : List ByteArray) : ∀ i, i ≤ l.length → prsN l i = (lnsL (l.take i)).take 64
 | 0, _ => rfl
 | i + 1, h => by
  have ih := prsN_eq l i (by omega)
  have ht := take_snoc' l i ⟨#[]⟩ (by omega)
  rw [ht, lnsL_app, prsN, ih, putH]
  have e : lnsL [l.getD i ⟨#[]⟩] = if lnOk (words (l.getD i ⟨#[]⟩)) = true then [lnH (words (l.getD i ⟨#[]⟩))] else [] := by
   unfold lnsL
   rw [List.filter_cons]
   split <;> rfl
  rw [e]
  by_cases h2 : lnOk (words (l.getD i ⟨#[]⟩)) = true
  ·rw [if_pos h2]
   by_cases h3 : lenH ((lnsL (l.take i)).take 64) = 64
   ·rw [if_neg (fun k => k.1 h3)]
    unfold lenH at h3
    rw [List.length_take] at h3
    rw [List.take_append_of_le_length (by omega)]
   ·rw [if_pos ⟨h3, h2⟩]
    unfold lenH at h3
    rw [List.length_take] at h3
    have t1 : (lnsL (l.take i)).take 64 = lnsL (l.take i) := List.take_of_length_le (by omega)
    rw [t1]
    exact (List.take_of_length_le (by rw [List.length_append, List.length_singleton]; omega)).symm
  ·rw [if_neg h2, if_neg (fun k => h2 k.2), List.append_nil]
theorem prsH_eq (s : ByteArray) : prsH s = (lnsL (linesS s)).take 64 := by
 have := prsN_eq (linesS s) _ (Nat.le_refl _)
 rw [List.take_length] at this
 exact this
theorem sp_hd (c : UInt8) (l : List UInt8) : split1 c (c :: l) = [] :: split1 c l := by rw [split1, if_pos rfl]
theorem sp_tl {c x : UInt8} (h : x ≠ c) {l y : List UInt8} {t : List (List UInt8)} (hs : split1 c l = y :: t) : split1 c (x :: l) = (x :: y) :: t := by rw [split1, if_neg h, hs]
theorem sp_appC (c : UInt8) (b : List UInt8) : ∀ a : List UInt8, split1 c (a ++ c :: b) = split1 c a ++ split1 c b
 | [] => sp_hd c b
 | x :: a => by
  have ih := sp_appC c b a
  rw [List.cons_append]
  by_cases h : x = c
  ·rw [h, sp_hd, sp_hd, ih]; rfl
  ·cases e : split1 c a with
   | nil => exact absurd e (split1_ne c a)
   | cons y t =>
    rw [e] at ih
    rw [sp_tl h e, sp_tl h ih]
    rfl
theorem lines_both (a b : ByteArray) : linesS (both a b) = linesS a ++ linesS b := by
 unfold linesS
 rw [splitS_one, splitS_one, splitS_one, ← List.map_append]
 congr 1
 rw [both, app_dt, app_dt, List.append_assoc]
 exact sp_appC 10 _ _
theorem prsH_both (a b : ByteArray) : lenH (prsH (both a b)) = min (lenH (prsH a) + lenH (prsH b)) 64 ∧ ∀ i, i < lenH (prsH (both a b)) → getH (prsH (both a b)) i = bif i.blt (lenH (prsH a)) then getH (prsH a) i else getH (prsH b) (i - lenH (prsH a)) := by
 rw [prsH_eq, prsH_eq, prsH_eq, lines_both, lnsL_app]
 generalize lnsL (linesS a) = x
 generalize lnsL (linesS b) = y
 unfold lenH getH
 simp only [List.length_take, List.length_append]
 refine ⟨by omega, fun i hi => ?_⟩
 rw [bltN, List.getD_eq_getElem?_getD, List.getElem?_take_of_lt (by omega)]
 by_cases h : i < min 64 x.length
 ·rw [decide_eq_true h, cond_true, List.getD_eq_getElem?_getD, List.getElem?_take_of_lt (by omega), List.getElem?_append_left (by omega)]
 ·rw [decide_eq_false h, cond_false, List.getD_eq_getElem?_getD, List.getElem?_append_right (by omega), List.getElem?_take_of_lt (by omega), show min 64 x.length = x.length by omega]
theorem li_v (a b : ByteArray) : liV a b := by
 unfold liV liV_a
 refine ⟨fun h => absurd h (by decide), fun _ => ⟨fun _ => rfl, fun h => ?_⟩⟩
 rw [Bool.or_eq_false_iff] at h
 have h1 : decide ((a.size : Int) ≤ 2000) = true := by simpa using h.1
 have h1 : (a.size : Int) ≤ 2000 := of_decide_eq_true h1
 have h2 : decide ((b.size : Int) ≤ 2000) = true := by simpa using h.2
 have h2 : (b.size : Int) ≤ 2000 := of_decide_eq_true h2
 obtain ⟨k1, k2⟩ := prsH_both a b
 have l1 := prsH_len a
 have l2 := prsH_len b
 have z1 : (a ++ (⟨#[10]⟩ : ByteArray)).size = a.size + 1 := by rw [ByteArray.size_append]; rfl
 have hm : imin (((lenH (prsH a) : Nat) : Int) + ((lenH (prsH b) : Nat) : Int)) 64 = ((lenH (prsH (both a b)) : Nat) : Int) := by rw [k1]; unfold imin; split <;> omega
 rw [hm]
 refine ⟨by omega, by omega, by omega, by omega, by rw [ByteArray.size_append]; omega, by unfold in64; omega, fun h3 => ?_, fun _ => ⟨⟨⟨0⟩, ⟨Nat.zero_le _, by omega⟩, rfl, rfl, rfl, rfl, rfl, rfl, rfl, trivial⟩, ?_⟩⟩
 ·have h3 : (((lenH (prsH (both a b)) : Nat) : Int) != ((lenH (prsH (both a b)) : Nat) : Int)) = true := h3
  simp at h3
 rintro ⟨i⟩ ⟨hi, h4⟩
 have hi : i ≤ lenH (prsH (both a b)) := hi
 dsimp only
 refine ⟨fun h5 => ?_, fun _ => rfl⟩
 have h5 : (i : Int) < lenH (prsH (both a b)) := of_decide_eq_true h5
 rw [Int.toNat_natCast, Nat.zero_add, k2 i (by omega)]
 refine ⟨by omega, h5, by omega, by omega, rfl, by omega, by omega, by omega, by omega, by omega, fun h6 => ?_, fun _ => ⟨by unfold in64; omega, ⟨i + 1⟩, ⟨(show i + 1 ≤ lenH (prsH (both a b)) by omega), h4⟩, (show lenH (prsH (both a b)) - (i + 1) < lenH (prsH (both a b)) - i by omega), rfl, rfl, rfl, rfl, rfl, rfl, rfl, trivial⟩⟩
 revert h6
 cases i.blt (lenH (prsH a)) <;> simp
theorem htypes_ok : CTok Tryz.prog 6 (C3 dStr dStr dInt (fun _ _ _ => []) fun _ _ _ => XB true) := C3_ok cx2_ok Tryz.func6 rfl (by decide) dStr_eq.ok dStr_eq.ok dInt_eq.ok (by kernel_rfl) (fun _ _ _ => rfl) fun s n k _ => exv (tyV_eq s n k) (ty_v s n k)
theorem hlines_ok : CTok Tryz.prog 3 (C2 dStr dStr (fun _ _ => []) fun _ _ => XB true) := C2_ok cx2_ok Tryz.func3 rfl (by decide) dStr_eq.ok dStr_eq.ok (by kernel_rfl) (fun _ _ => rfl) fun a b _ => exv (liV_eq a b) (li_v a b)
end Go.Proofs.YtkjcoehblekpdaaGreatDoorAv
namespace Go.Proofs.YtkjcoehblekpdaaGreatDoorAv
open Go Go.RowKit
theorem hostsTypes_J (L : GH) (s n : ByteArray) (k : Int) (hs : s.size ≤ 140737488351232) (hn : n.size ≤ 140737488351232) (hk : (Lit.int .i64 k).wf = true) : JF Tryz.prog 6 [strAV s, strAV n, intAV k] L (fun v L' => v = boolAV true ∧ L' = L) := by
 refine law_J htypes_ok (xs := [XT s, XT n, XI k]) (cs := _) rfl ?_ ?_ L
 ·intro p hp
  simp only [List.nil_append, List.not_mem_nil] at hp
 ·simp only [RVL]
  exact ⟨by simp [RV, strAV], by simp [RV, strAV], by simp [RV, intAV], trivial⟩
theorem hostsLines_J (L : GH) (s n : ByteArray) (hs : s.size ≤ 140737488351232) (hn : n.size ≤ 140737488351232) : JF Tryz.prog 3 [strAV s, strAV n] L (fun v L' => v = boolAV true ∧ L' = L) := by
 refine law_J hlines_ok (xs := [XT s, XT n]) (cs := _) rfl ?_ ?_ L
 ·intro p hp
  simp only [List.nil_append, List.not_mem_nil] at hp
 ·simp only [RVL]
  exact ⟨by simp [RV, strAV], by simp [RV, strAV], trivial⟩
end Go.Proofs.YtkjcoehblekpdaaGreatDoorAv
