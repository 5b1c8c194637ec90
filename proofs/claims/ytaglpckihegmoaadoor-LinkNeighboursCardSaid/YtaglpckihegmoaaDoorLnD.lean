/- Own texts, put together. -/
import Derived.Test.YtaglpckihegmoaaDoorLnC
import Derived.WalkKit
import Derived.Deep.LoopGhost
import Derived.Laws.OwnMore
import Derived.Laws.CopyRow
import Derived.Lib.ConvBytes
import Derived.Below
import Derived.KernelRfl
import Derived.Scope
import Derived.Laws.BytesString
import Derived.DataElems
import Derived.Laws.Tables
import Derived.Laws.Cells
import Derived.OrdersIn
import Derived.Laws.StructEq
import Derived.Laws.RangeString
import Derived.Maps.RangeRun
import Derived.BigQuiet
import Derived.Test.YtaglpckihegmoaaDoorProg
import Derived.Shelf.Small.Wraps
import Derived.Shelf.Utf8.RuneCount
import Derived.Shelf.Strings.Search1
import Derived.Shelf.Strings.Search2
import Derived.Shelf.Strings.Search3
import Derived.Shelf.Strings.Count
import Derived.Shelf.LaysM
import Derived.Shelf.Strings.Shaped
import Derived.Shelf.Strings.LastIndex
import Derived.Shelf.Strings.Prefix
import Derived.Shelf.Strings.Split
import Derived.Shelf.Strings.Fold
import Derived.Shelf.Unicode.Decode
import Derived.Shelf.Strings.RuneCount
import Derived.Shelf.Unicode.DecodeSlow
import Derived.Shelf.Unicode.DecodeAny
import Derived.Shelf.Unicode.ValidAny
import Derived.Shelf.Unicode.CaseLookup
import Derived.Shelf.Unicode.CaseConvert
import Derived.OpenShut
import Derived.SliceStrings
import Derived.ChangeSlices
import Derived.SizedLaws
import Derived.Carry
import Derived.Lib.LaidTab
import Derived.Shelf.Vars
import Derived.WideKeyArr2
import Derived.Lay
import Derived.Deep.DeepHandedRow
import Derived.Test.YtaglpckihegmoaaDoorRows
import Derived.Lib.LaidU8T
import Derived.DataReads
import Derived.Lib.Replace
set_option linter.unusedVariables false
set_option linter.unusedSimpArgs false
set_option maxRecDepth 100000
namespace Go.Proofs.YtaglpckihegmoaaDoorAv
open Go Go.RowKit
structure IL where
 i : Nat
def capC (c : Int) : Bool := decide (c ≥ 65) && decide (c ≤ 90)
def lwB (s : ByteArray) (i j : Nat) : Int := if j < i ∧ capC (sbyte s j) = true then IntKind.u8.wrap (sbyte s j + 32) else sbyte s j
def lowT (s : ByteArray) : ByteArray := txtOf s.size fun j => UInt8.ofNat (lwB s s.size (0 + j)).toNat
def lwI (s : ByteArray) : Inv where
 σ := IL
 S := fun x => ⟨[(3, .sl 0 1 0 s.size), (8, .sl 0 1 0 s.size), (9, XI s.size), (10, XI x.i)], [(0, .vec 5 false s.size 1 fun j => [X8 (lwB s x.i j)])], 1, false, []⟩
 inv := fun x => x.i ≤ s.size
 μ := fun x => s.size - x.i
def lwE (s : ByteArray) : Env := { loops := [(0, lwI s)] }
def lowV (s : ByteArray) : Prop :=
 (∃ (x : (lwI s).σ), x.i.le s.size ∧ true = true ∧ XV.sl 0 1 0 s.size = XV.sl 0 1 0 s.size ∧ XV.sl 0 1 0 s.size = XV.sl 0 1 0 s.size ∧ (↑s.size : Int) = (↑s.size : Int) ∧ (0 : Int) = (↑x.i : Int) ∧ (((5 : TypeId) = (5 : TypeId) ∧ false = false ∧ (1 : Nat) = (1 : Nat)) ∧ s.size = s.size ∧ ∀ (j : Nat), j < s.size → [X8 (sbyte s (↑j : Int))] = [X8 (lwB s x.i j)]) ∧ True) ∧ ∀ (x : IL), x.i.le s.size → (decide ((↑x.i : Int) < (↑s.size : Int)) = true → (0 : Int) ≤ (↑x.i : Int) ∧ (↑x.i : Int) < (↑s.size : Int) ∧ (0 : Nat) + (↑x.i : Int).toNat < s.size ∧ ((decide (lwB s x.i ((0 : Nat) + (↑x.i : Int).toNat) ≥ (65 : Int)) && decide (lwB s x.i ((0 : Nat) + (↑x.i : Int).toNat) ≤ (90 : Int))) = true → (0 : Int) ≤ (↑x.i : Int) ∧ (↑x.i : Int) < (↑s.size : Int) ∧ (0 : Nat) + (↑x.i : Int).toNat < s.size ∧ in64 ((↑x.i : Int) + (1 : Int)) ∧ ∃ (x' : (lwI s).σ), x'.i.le s.size ∧ s.size - x'.i < s.size - x.i ∧ true = true ∧ XV.sl 0 1 0 s.size = XV.sl 0 1 0 s.size ∧ XV.sl 0 1 0 s.size = XV.sl 0 1 0 s.size ∧ (↑s.size : Int) = (↑s.size : Int) ∧ (↑x.i : Int) + (1 : Int) = (↑x'.i : Int) ∧ (((5 : TypeId) = (5 : TypeId) ∧ false = false ∧ (1 : Nat) = (1 : Nat)) ∧ s.size = s.size ∧ ∀ (j : Nat), j < s.size → (bif j.beq ((0 : Nat) + (↑x.i : Int).toNat) then [X8 (IntKind.u8.wrap (lwB s x.i ((0 : Nat) + (↑x.i : Int).toNat) + (32 : Int)))] else [X8 (lwB s x.i j)]) = [X8 (lwB s x'.i j)]) ∧ True) ∧ ((decide (lwB s x.i ((0 : Nat) + (↑x.i : Int).toNat) ≥ (65 : Int)) && decide (lwB s x.i ((0 : Nat) + (↑x.i : Int).toNat) ≤ (90 : Int))) = false → in64 ((↑x.i : Int) + (1 : Int)) ∧ ∃ (x' : (lwI s).σ), x'.i.le s.size ∧ s.size - x'.i < s.size - x.i ∧ true = true ∧ XV.sl 0 1 0 s.size = XV.sl 0 1 0 s.size ∧ XV.sl 0 1 0 s.size = XV.sl 0 1 0 s.size ∧ (↑s.size : Int) = (↑s.size : Int) ∧ (↑x.i : Int) + (1 : Int) = (↑x'.i : Int) ∧ (((5 : TypeId) = (5 : TypeId) ∧ false = false ∧ (1 : Nat) = (1 : Nat)) ∧ s.size = s.size ∧ ∀ (j : Nat), j < s.size → [X8 (lwB s x.i j)] = [X8 (lwB s x'.i j)]) ∧ True)) ∧ (decide ((↑x.i : Int) < (↑s.size : Int)) = false → (0 : Nat) + s.size ≤ s.size ∧ (∀ (j : Nat), j < s.size → [X8 (lwB s x.i ((0 : Nat) + j))] = [X8 (↑{ toBitVec := BitVec.ofNat 8 (lwB s x.i ((0 : Nat) + j)).toNat : UInt8 }.toNat : Int)]) ∧ (txtOf s.size fun (j : Nat) => { toBitVec := BitVec.ofNat 8 (lwB s x.i ((0 : Nat) + j)).toNat : UInt8 }) = lowT s)
theorem lowV_eq (s : ByteArray) : lowV s = (funC cx0 Tryd.f32 (mkSc (lwE s) (bodyOf Tryd.f32)) [XT s] (XT (lowT s))) := by kernel_rfl
def digC (c : Int) : Bool := decide (c ≥ 48) && decide (c ≤ 57)
def okC (c : Int) : Bool := digC c || c == 45 || c == 95 || (decide (bits .or .u8 c 32 ≥ 97) && decide (bits .or .u8 c 32 ≤ 122) && decide (c ≥ 65))
def okN (s : ByteArray) : Nat → Bool
 | 0 => true
 | i + 1 => okN s i && okC (sbyte s i)
def rgt (s : ByteArray) : Bool := decide (0 < s.size) && decide (s.size ≤ 63) && !(sbyte s 0 == 45) && !(sbyte s ((s.size : Int) - 1) == 45) && okN s s.size
def rgI (s : ByteArray) : Inv where
 σ := IL
 S := fun x => ⟨[(0, XT s), (27, XI s.size), (28, XI x.i)], [], 0, false, []⟩
 inv := fun x => x.i ≤ s.size ∧ okN s x.i = true ∧ rgt s = okN s s.size
 μ := fun x => s.size - x.i
def rgE (s : ByteArray) : Env := { loops := [(0, rgI s)] }
def rgtV (s : ByteArray) : Prop :=
 ((!(decide (s = ⟨#[]⟩) || decide ((↑s.size : Int) > (63 : Int)))) = true → (0 : Int) ≤ (0 : Int)) ∧ ((!(decide (s = ⟨#[]⟩) || decide ((↑s.size : Int) > (63 : Int)))) = true → (0 : Int) < (↑s.size : Int)) ∧ ((!(decide (s = ⟨#[]⟩) || decide ((↑s.size : Int) > (63 : Int)) || sbyte s 0 == (45 : Int))) = true → in64 ((↑s.size : Int) - (1 : Int))) ∧ ((!(decide (s = ⟨#[]⟩) || decide ((↑s.size : Int) > (63 : Int)) || sbyte s 0 == (45 : Int))) = true → (0 : Int) ≤ (↑s.size : Int) - (1 : Int)) ∧ ((!(decide (s = ⟨#[]⟩) || decide ((↑s.size : Int) > (63 : Int)) || sbyte s 0 == (45 : Int))) = true → (↑s.size : Int) - (1 : Int) < (↑s.size : Int)) ∧ ((decide (s = ⟨#[]⟩) || decide ((↑s.size : Int) > (63 : Int)) || sbyte s 0 == (45 : Int) || sbyte s ((↑s.size : Int) - (1 : Int)) == (45 : Int)) = true → false = rgt s) ∧ ((decide (s = ⟨#[]⟩) || decide ((↑s.size : Int) > (63 : Int)) || sbyte s 0 == (45 : Int) || sbyte s ((↑s.size : Int) - (1 : Int)) == (45 : Int)) = false → (∃ (x : (rgI s).σ), (x.i ≤ s.size ∧ okN s x.i = true ∧ rgt s = okN s s.size) ∧ true = true ∧ s = s ∧ (↑s.size : Int) = (↑s.size : Int) ∧ (0 : Int) = (↑x.i : Int) ∧ True) ∧ ∀ (x : IL), x.i ≤ s.size ∧ okN s x.i = true ∧ rgt s = okN s s.size → (decide ((↑x.i : Int) < (↑s.size : Int)) = true → (0 : Int) ≤ (↑x.i : Int) ∧ (↑x.i : Int) < (↑s.size : Int) ∧ (0 : Int) ≤ (↑x.i : Int) ∧ (↑x.i : Int) < (↑s.size : Int) ∧ (decide (sbyte s (↑x.i : Int) ≥ (48 : Int)) = true → (0 : Int) ≤ (↑x.i : Int)) ∧ (decide (sbyte s (↑x.i : Int) ≥ (48 : Int)) = true → (↑x.i : Int) < (↑s.size : Int)) ∧ ((!(decide (sbyte s (↑x.i : Int) ≥ (48 : Int)) && decide (sbyte s (↑x.i : Int) ≤ (57 : Int)))) = true → (0 : Int) ≤ (↑x.i : Int)) ∧ ((!(decide (sbyte s (↑x.i : Int) ≥ (48 : Int)) && decide (sbyte s (↑x.i : Int) ≤ (57 : Int)))) = true → (↑x.i : Int) < (↑s.size : Int)) ∧ ((!(decide (sbyte s (↑x.i : Int) ≥ (48 : Int)) && decide (sbyte s (↑x.i : Int) ≤ (57 : Int))) && sbyte s (↑x.i : Int) != (45 : Int)) = true → (0 : Int) ≤ (↑x.i : Int)) ∧ ((!(decide (sbyte s (↑x.i : Int) ≥ (48 : Int)) && decide (sbyte s (↑x.i : Int) ≤ (57 : Int))) && sbyte s (↑x.i : Int) != (45 : Int)) = true → (↑x.i : Int) < (↑s.size : Int)) ∧ ((!(decide (sbyte s (↑x.i : Int) ≥ (48 : Int)) && decide (sbyte s (↑x.i : Int) ≤ (57 : Int))) && sbyte s (↑x.i : Int) != (45 : Int) && sbyte s (↑x.i : Int) != (95 : Int) && !(decide (bits BinOp.or IntKind.u8 (sbyte s (↑x.i : Int)) 32 < (97 : Int)) || decide (bits BinOp.or IntKind.u8 (sbyte s (↑x.i : Int)) 32 > (122 : Int)))) = true → (0 : Int) ≤ (↑x.i : Int)) ∧ ((!(decide (sbyte s (↑x.i : Int) ≥ (48 : Int)) && decide (sbyte s (↑x.i : Int) ≤ (57 : Int))) && sbyte s (↑x.i : Int) != (45 : Int) && sbyte s (↑x.i : Int) != (95 : Int) && !(decide (bits BinOp.or IntKind.u8 (sbyte s (↑x.i : Int)) 32 < (97 : Int)) || decide (bits BinOp.or IntKind.u8 (sbyte s (↑x.i : Int)) 32 > (122 : Int)))) = true → (↑x.i : Int) < (↑s.size : Int)) ∧ ((!(decide (sbyte s (↑x.i : Int) ≥ (48 : Int)) && decide (sbyte s (↑x.i : Int) ≤ (57 : Int))) && sbyte s (↑x.i : Int) != (45 : Int) && sbyte s (↑x.i : Int) != (95 : Int) && (decide (bits BinOp.or IntKind.u8 (sbyte s (↑x.i : Int)) 32 < (97 : Int)) || decide (bits BinOp.or IntKind.u8 (sbyte s (↑x.i : Int)) 32 > (122 : Int)) || decide (sbyte s (↑x.i : Int) < (65 : Int)))) = true → false = rgt s) ∧ ((!(decide (sbyte s (↑x.i : Int) ≥ (48 : Int)) && decide (sbyte s (↑x.i : Int) ≤ (57 : Int))) && sbyte s (↑x.i : Int) != (45 : Int) && sbyte s (↑x.i : Int) != (95 : Int) && (decide (bits BinOp.or IntKind.u8 (sbyte s (↑x.i : Int)) 32 < (97 : Int)) || decide (bits BinOp.or IntKind.u8 (sbyte s (↑x.i : Int)) 32 > (122 : Int)) || decide (sbyte s (↑x.i : Int) < (65 : Int)))) = false → in64 ((↑x.i : Int) + (1 : Int)) ∧ ∃ (x' : (rgI s).σ), (x'.i ≤ s.size ∧ okN s x'.i = true ∧ rgt s = okN s s.size) ∧ s.size - x'.i < s.size - x.i ∧ true = true ∧ s = s ∧ (↑s.size : Int) = (↑s.size : Int) ∧ (↑x.i : Int) + (1 : Int) = (↑x'.i : Int) ∧ True)) ∧ (decide ((↑x.i : Int) < (↑s.size : Int)) = false → true = rgt s))
theorem rgtV_eq (s : ByteArray) : rgtV s = (funC cx0 Tryd.f44 (mkSc (rgE s) (bodyOf Tryd.f44)) [XT s] (XB (rgt s))) := by kernel_rfl
def pla (s : ByteArray) : Nat → Bool
 | 0 => true
 | i + 1 => pla s i && decide (sbyte s i < 128)
def plI (s : ByteArray) : Inv where
 σ := IL
 S := fun x => ⟨[(0, XT s), (5, XI s.size), (6, XI x.i)], [], 0, false, []⟩
 inv := fun x => x.i ≤ s.size ∧ pla s x.i = true
 μ := fun x => s.size - x.i
def plE (s : ByteArray) : Env := { loops := [(0, plI s)] }
def plaV (s : ByteArray) : Prop :=
 (∃ (x : (plI s).σ), (x.i ≤ s.size ∧ pla s x.i = true) ∧ true = true ∧ s = s ∧ (↑s.size : Int) = (↑s.size : Int) ∧ (0 : Int) = (↑x.i : Int) ∧ True) ∧ ∀ (x : IL), x.i ≤ s.size ∧ pla s x.i = true → (decide ((↑x.i : Int) < (↑s.size : Int)) = true → (0 : Int) ≤ (↑x.i : Int) ∧ (↑x.i : Int) < (↑s.size : Int) ∧ (decide (sbyte s (↑x.i : Int) ≥ (128 : Int)) = true → false = pla s s.size) ∧ (decide (sbyte s (↑x.i : Int) ≥ (128 : Int)) = false → in64 ((↑x.i : Int) + (1 : Int)) ∧ ∃ (x' : (plI s).σ), (x'.i ≤ s.size ∧ pla s x'.i = true) ∧ s.size - x'.i < s.size - x.i ∧ true = true ∧ s = s ∧ (↑s.size : Int) = (↑s.size : Int) ∧ (↑x.i : Int) + (1 : Int) = (↑x'.i : Int) ∧ True)) ∧ (decide ((↑x.i : Int) < (↑s.size : Int)) = false → true = pla s s.size)
theorem plaV_eq (s : ByteArray) : plaV s = (funC cx0 Tryd.f43 (mkSc (plE s) (bodyOf Tryd.f43)) [XT s] (XB (pla s s.size))) := by kernel_rfl
def good (r : Int) : Bool := (decide (r ≥ 223) && decide (r ≤ 255) && r != 247) || (decide (r ≥ 256) && decide (r ≤ 383) && r.tmod 2 == 1 && decide (r < 312)) || (decide (r ≥ 945) && decide (r ≤ 969)) || (decide (r ≥ 1072) && decide (r ≤ 1119))
def goodV (r : Int) : Prop :=
 ((decide (r ≥ (223 : Int)) && decide (r ≤ (255 : Int)) && r != (247 : Int)) = true → true = good r) ∧ ((decide (r ≥ (223 : Int)) && decide (r ≤ (255 : Int)) && r != (247 : Int)) = false → (decide (r ≥ (256 : Int)) = true → decide (r ≥ (256 : Int)) = true) ∧ (decide (r ≥ (256 : Int)) = true → decide (r ≥ (256 : Int)) = true) ∧ ((decide (r ≥ (256 : Int)) && decide (r ≤ (383 : Int))) = true → (2 : Int) ≠ (0 : Int) ∧ (r.tmod 2 == (1 : Int) && decide (r < (312 : Int))) = good r) ∧ ((decide (r ≥ (256 : Int)) && decide (r ≤ (383 : Int))) = false → (decide (r ≥ (945 : Int)) = true → decide (r ≥ (945 : Int)) = true) ∧ (decide (r ≥ (945 : Int)) = true → decide (r ≥ (945 : Int)) = true) ∧ ((decide (r ≥ (945 : Int)) && decide (r ≤ (969 : Int))) = true → true = good r) ∧ ((decide (r ≥ (945 : Int)) && decide (r ≤ (969 : Int))) = false → (decide (r ≥ (1072 : Int)) = true → decide (r ≥ (1072 : Int)) = true) ∧ (decide (r ≥ (1072 : Int)) = true → decide (r ≥ (1072 : Int)) = true) ∧ ((decide (r ≥ (1072 : Int)) && decide (r ≤ (1119 : Int))) = true → true = good r) ∧ ((decide (r ≥ (1072 : Int)) && decide (r ≤ (1119 : Int))) = false → false = good r))))
theorem goodV_eq (r : Int) : goodV r = (funC cx0 Tryd.f48 .nil [X32 r] (XB (good r))) := by kernel_rfl
theorem sb_rng (s : ByteArray) (i : Int) : 0 ≤ sbyte s i ∧ sbyte s i ≤ 255 := by
 unfold sbyte
 have := UInt8.toNat_lt (s.data.toList.getD i.toNat 0)
 omega
theorem w8 (n : Int) : IntKind.u8.wrap n = n % 256 := by simp [IntKind.wrap, IntKind.bits, IntKind.signed]
theorem lwB_rng (s : ByteArray) (i j : Nat) : 0 ≤ lwB s i j ∧ lwB s i j ≤ 255 := by
 unfold lwB
 split
 ·rw [w8]; omega
 ·exact sb_rng _ _
theorem lwB_b (s : ByteArray) (i j : Nat) : lwB s i j = ((UInt8.ofNat (lwB s i j).toNat).toNat : Int) := by
 have := lwB_rng s i j
 rw [UInt8.toNat_ofNat']
 omega
theorem lwB_at (s : ByteArray) (i : Nat) : lwB s i i = sbyte s i := by unfold lwB; rw [if_neg (by omega)]
theorem lwB_no (s : ByteArray) (i j : Nat) (h : j ≠ i ∨ capC (sbyte s i) = false) : lwB s (i + 1) j = lwB s i j := by
 unfold lwB
 by_cases e : j < i
 ·have e2 : j < i + 1 := by omega
  simp only [e, e2]
 ·by_cases e3 : j = i
  ·subst e3
   have h : capC (sbyte s (j : Int)) = false := h.resolve_left (fun h => h rfl)
   rw [if_neg (by rw [h]; simp), if_neg (by omega)]
  ·rw [if_neg (by omega), if_neg (by omega)]
theorem lwB_yes (s : ByteArray) (i : Nat) (h : capC (sbyte s i) = true) : lwB s (i + 1) i = IntKind.u8.wrap (sbyte s i + 32) := by
 unfold lwB
 rw [if_pos ⟨by omega, h⟩]
theorem low_v (s : ByteArray) (hs : s.size ≤ 1000000000) : lowV s := by
 unfold lowV
 refine ⟨⟨⟨0⟩, Nat.zero_le _, rfl, rfl, rfl, rfl, rfl, ⟨⟨rfl, rfl, rfl⟩, rfl, fun j hj => by simp [lwB]⟩, trivial⟩, ?_⟩
 rintro ⟨i⟩ hi
 have hi : i ≤ s.size := hi
 refine ⟨fun h => ?_, fun h => ?_⟩
 ·have h : (i : Int) < s.size := of_decide_eq_true h
  have hz : 0 + (i : Int).toNat = i := by omega
  dsimp only
  rw [hz, lwB_at]
  refine ⟨by omega, by omega, by omega, fun hc => ?_, fun hc => ?_⟩
  ·refine ⟨by omega, by omega, by omega, by unfold in64; omega, ⟨i + 1⟩, by show i + 1 ≤ s.size; omega, by show s.size - (i + 1) < s.size - i; omega, rfl, rfl, rfl, rfl, rfl, ⟨⟨rfl, rfl, rfl⟩, rfl, fun j hj => ?_⟩, trivial⟩
   dsimp only
   rw [beqN]
   by_cases e : j = i
   ·subst e
    rw [decide_eq_true rfl, lwB_yes s j hc]
    rfl
   ·rw [decide_eq_false e, lwB_no s i j (.inl e)]
    rfl
  ·refine ⟨by unfold in64; omega, ⟨i + 1⟩, by show i + 1 ≤ s.size; omega, by show s.size - (i + 1) < s.size - i; omega, rfl, rfl, rfl, rfl, rfl, ⟨⟨rfl, rfl, rfl⟩, rfl, fun j hj => ?_⟩, trivial⟩
   rw [lwB_no s i j (.inr hc)]
 ·have h : ¬ (i : Int) < s.size := of_decide_eq_false h
  obtain rfl : i = s.size := by omega
  exact ⟨by omega, fun j hj => congrArg (fun z => [X8 z]) (lwB_b s _ (0 + j)), rfl⟩
theorem emp_iff (s : ByteArray) : decide (s = ⟨#[]⟩) = decide (s.size = 0) := by
 rw [decide_eq_decide]
 constructor
 ·rintro rfl; rfl
 ·intro h
  obtain ⟨⟨l⟩⟩ := s
  have h : l.length = 0 := h
  rw [List.length_eq_zero_iff.1 h]
theorem okN_le (s : ByteArray) (i : Nat) : ∀ n, i ≤ n → okN s n = true → okN s i = true
  | 0, h, k => by obtain rfl : i = 0 := by omega
                  exact k
  | n + 1, h, k => by
    by_cases e : i = n + 1
    · rw [e]; exact k
    · rw [okN, Bool.and_eq_true] at k
      exact okN_le s i n (by omega) k.1
theorem rgt_v (s : ByteArray) (hs : s.size ≤ 1000000000) : rgtV s := by
 have hr : ∀ b, (decide (s = ⟨#[]⟩) || decide ((s.size : Int) > 63) || sbyte s 0 == 45 || sbyte s ((s.size : Int) - 1) == 45) = b → rgt s = (!b && okN s s.size) := by
  intro b hb
  unfold rgt
  rw [← hb, emp_iff]
  have e1 : decide (0 < s.size) = !decide (s.size = 0) := by
   by_cases e : s.size = 0
   ·rw [decide_eq_true e, decide_eq_false (by omega)]; rfl
   ·rw [decide_eq_false e, decide_eq_true (by omega)]; rfl
  have e2 : decide (s.size ≤ 63) = !decide ((s.size : Int) > 63) := by
   by_cases e : (s.size : Int) > 63
   ·rw [decide_eq_true e, decide_eq_false (by omega)]; rfl
   ·rw [decide_eq_false e, decide_eq_true (by omega)]; rfl
  rw [e1, e2, Bool.not_or, Bool.not_or, Bool.not_or]
 have hpos : ∀ b, (!(decide (s = ⟨#[]⟩) || b)) = true → (0 : Int) < s.size := by
  intro b h
  rw [emp_iff] at h
  have h2 : decide (s.size = 0) = false := by
   cases hd : decide (s.size = 0)
   ·rfl
   ·rw [hd] at h; cases h
  have := of_decide_eq_false h2
  omega
 have hpos2 : ∀ b c, (!(decide (s = ⟨#[]⟩) || b || c)) = true → (0 : Int) < s.size := fun b c h => hpos (b || c) (by rw [← Bool.or_assoc]; exact h)
 unfold rgtV
 refine ⟨fun _ => by omega, hpos _, fun h => by unfold in64; omega, fun h => by have := hpos2 _ _ h; omega, fun h => by omega, fun h => ?_, fun h => ?_⟩
 ·rw [hr true h]; rfl
 have hr := hr false h
 refine ⟨⟨⟨0⟩, ⟨Nat.zero_le _, rfl, by rw [hr]; rfl⟩, rfl, rfl, rfl, rfl, trivial⟩, ?_⟩
 rintro ⟨i⟩ ⟨hi, hk, -⟩
 have hi : i ≤ s.size := hi
 refine ⟨fun h => ?_, fun h => ?_⟩
 ·have h : (i : Int) < s.size := of_decide_eq_true h
  have hb : okN s (i + 1) = okC (sbyte s (i : Int)) := by
   have hk : okN s i = true := hk
   rw [okN, hk, Bool.true_and]
  dsimp only
  refine ⟨by omega, h, by omega, h, fun _ => by omega, fun _ => h, fun _ => by omega, fun _ => h, fun _ => by omega, fun _ => h, fun _ => by omega, fun _ => h, fun hc => ?_, fun hc => ?_⟩
  ·have e : okC (sbyte s (i : Int)) = false := by
    unfold okC digC
    revert hc
    cases decide (sbyte s (i : Int) ≥ 48) && decide (sbyte s (i : Int) ≤ 57)
    ·cases e1 : sbyte s (i : Int) == 45 <;> cases e2 : sbyte s (i : Int) == 95 <;> simp [bne, e1, e2]
     rintro ((h1 | h1) | h1) <;> omega
    ·simp
   cases hN : okN s s.size
   ·rw [hr, hN]; rfl
   ·rw [okN_le s (i + 1) s.size (by omega) hN, e] at hb
    cases hb
  ·have e : okC (sbyte s (i : Int)) = true := by
    unfold okC digC
    revert hc
    cases decide (sbyte s (i : Int) ≥ 48) && decide (sbyte s (i : Int) ≤ 57)
    ·cases e1 : sbyte s (i : Int) == 45 <;> cases e2 : sbyte s (i : Int) == 95 <;> simp [bne, e1, e2]
    ·simp
   exact ⟨by unfold in64; omega, ⟨i + 1⟩, ⟨by show i + 1 ≤ s.size; omega, by rw [hb, e], by rw [hr]; rfl⟩, by show s.size - (i + 1) < s.size - i; omega, rfl, rfl, rfl, rfl, trivial⟩
 ·have h : ¬ (i : Int) < s.size := of_decide_eq_false h
  obtain rfl : i = s.size := by omega
  have hk : okN s s.size = true := hk
  rw [hr, hk]; rfl
theorem pla_le (s : ByteArray) (i : Nat) : ∀ n, i ≤ n → pla s n = true → pla s i = true
  | 0, h, k => by obtain rfl : i = 0 := by omega
                  exact k
  | n + 1, h, k => by
    by_cases e : i = n + 1
    · rw [e]; exact k
    · rw [pla, Bool.and_eq_true] at k
      exact pla_le s i n (by omega) k.1
theorem pla_v (s : ByteArray) (hs : s.size ≤ 1000000000) : plaV s := by
 unfold plaV
 refine ⟨⟨⟨0⟩, ⟨Nat.zero_le _, rfl⟩, rfl, rfl, rfl, rfl, trivial⟩, ?_⟩
 rintro ⟨i⟩ ⟨hi, hp⟩
 have hi : i ≤ s.size := hi
 refine ⟨fun h => ?_, fun h => ?_⟩
 ·have h : (i : Int) < s.size := of_decide_eq_true h
  refine ⟨by dsimp only; omega, h, fun hc => ?_, fun hc => ?_⟩
  ·have hc : sbyte s (i : Int) ≥ 128 := of_decide_eq_true hc
   cases hN : pla s s.size
   ·rfl
   ·have := pla_le s (i + 1) s.size (by omega) hN
    rw [pla, Bool.and_eq_true, decide_eq_true_iff] at this
    omega
  ·have hc : ¬ sbyte s (i : Int) ≥ 128 := of_decide_eq_false hc
   have hp : pla s i = true := hp
   exact ⟨by unfold in64; dsimp only; omega, ⟨i + 1⟩, ⟨by show i + 1 ≤ s.size; omega, by show pla s (i + 1) = true; rw [pla, hp, Bool.true_and, decide_eq_true_iff]; omega⟩, by show s.size - (i + 1) < s.size - i; omega, rfl, rfl, rfl, rfl, trivial⟩
 ·have h : ¬ (i : Int) < s.size := of_decide_eq_false h
  obtain rfl : i = s.size := by omega
  exact hp.symm
theorem good_v (r : Int) : goodV r := by
 unfold goodV good
 refine ⟨fun h => ?_, fun h => ⟨fun h => h, fun h => h, fun h1 => ⟨by decide, ?_⟩, fun h1 => ⟨fun h => h, fun h => h, fun h2 => ?_, fun h2 => ⟨fun h => h, fun h => h, fun h3 => ?_, fun h3 => ?_⟩⟩⟩⟩
 ·rw [h]; rfl
 ·simp only [Bool.and_eq_true, decide_eq_true_eq] at h1
  rw [h]
  have e1 : decide (r ≥ 945) = false := by rw [decide_eq_false_iff_not]; omega
  have e2 : decide (r ≥ 1072) = false := by rw [decide_eq_false_iff_not]; omega
  rw [e1, e2, decide_eq_true h1.1, decide_eq_true h1.2]
  simp
 ·rw [h, h1, h2]; simp
 ·rw [h, h1, h2, h3]; simp
 ·rw [h, h1, h2, h3]; simp
def lowC : CT := C1 dStr (fun s => [s.size ≤ 1000000000]) fun s => XT (lowT s)
theorem low_ok : CTok Tryd.prog 32 lowC := C1_ok cx0_ok Tryd.func32 rfl (by decide) dStr_eq.ok (by kernel_rfl) (fun _ => rfl) fun s hc => exv (lowV_eq s) (low_v s (hc _ (by simp)))
def rgtC : CT := C1 dStr (fun s => [s.size ≤ 1000000000]) fun s => XB (rgt s)
theorem rgt_ok : CTok Tryd.prog 44 rgtC := C1_ok cx0_ok Tryd.func44 rfl (by decide) dStr_eq.ok (by kernel_rfl) (fun _ => rfl) fun s hc => exv (rgtV_eq s) (rgt_v s (hc _ (by simp)))
def plaC : CT := C1 dStr (fun s => [s.size ≤ 1000000000]) fun s => XB (pla s s.size)
theorem pla_ok : CTok Tryd.prog 43 plaC := C1_ok cx0_ok Tryd.func43 rfl (by decide) dStr_eq.ok (by kernel_rfl) (fun _ => rfl) fun s hc => exv (plaV_eq s) (pla_v s (hc _ (by simp)))
def goodC : CT := C1 (dIK .i32) (fun _ => []) fun r => XB (good r)
theorem good_ok : CTok Tryd.prog 48 goodC := C1_ok cx0_ok Tryd.func48 rfl (by decide) (dIK_eq .i32).ok (by kernel_rfl) (fun _ => rfl) fun r _ => exv (goodV_eq r) (good_v r)
end Go.Proofs.YtaglpckihegmoaaDoorAv
namespace Go.Proofs.YtaglpckihegmoaaDoorAv
open Go Go.RowKit
def vlu (c : Int) : Int := if c ≥ 97 ∧ c ≤ 122 then c - 97 else if c ≥ 65 ∧ c ≤ 90 then c - 65 else if c ≥ 48 ∧ c ≤ 57 then c - 48 + 26 else 36
def dgt (d : Int) : Int := if d < 26 then 97 + d else 48 + d - 26
def thr (k b : Int) : Int := imin (imax (k - b) 1) 26
def vluV (c : Int) : Prop :=
 ((decide (c ≥ (97 : Int)) && decide (c ≤ (122 : Int))) = true → in64 (IntKind.u8.wrap (c - (97 : Int))) ∧ IntKind.u8.wrap (c - (97 : Int)) = vlu c) ∧ ((decide (c ≥ (97 : Int)) && decide (c ≤ (122 : Int))) = false → (decide (c ≥ (65 : Int)) = true → decide (c ≥ (65 : Int)) = true) ∧ (decide (c ≥ (65 : Int)) = true → decide (c ≥ (65 : Int)) = true) ∧ ((decide (c ≥ (65 : Int)) && decide (c ≤ (90 : Int))) = true → in64 (IntKind.u8.wrap (c - (65 : Int))) ∧ IntKind.u8.wrap (c - (65 : Int)) = vlu c) ∧ ((decide (c ≥ (65 : Int)) && decide (c ≤ (90 : Int))) = false → (decide (c ≥ (48 : Int)) = true → decide (c ≥ (48 : Int)) = true) ∧ (decide (c ≥ (48 : Int)) = true → decide (c ≥ (48 : Int)) = true) ∧ ((decide (c ≥ (48 : Int)) && decide (c ≤ (57 : Int))) = true → in64 (IntKind.u8.wrap (c - (48 : Int))) ∧ in64 (IntKind.u8.wrap (c - (48 : Int)) + (26 : Int)) ∧ IntKind.u8.wrap (c - (48 : Int)) + (26 : Int) = vlu c) ∧ ((decide (c ≥ (48 : Int)) && decide (c ≤ (57 : Int))) = false → (36 : Int) = vlu c)))
theorem vluV_eq (c : Int) : vluV c = (funC cx0 Tryd.f65 .nil [X8 c] (XI (vlu c))) := by kernel_rfl
def dgtV (d : Int) : Prop :=
 (decide (d < (26 : Int)) = true → in64 ((97 : Int) + d) ∧ IntKind.u8.wrap ((97 : Int) + d) = dgt d) ∧ (decide (d < (26 : Int)) = false → in64 ((48 : Int) + d) ∧ in64 ((48 : Int) + d - (26 : Int)) ∧ IntKind.u8.wrap ((48 : Int) + d - (26 : Int)) = dgt d)
theorem dgtV_eq (d : Int) : dgtV d = (funC cx0 Tryd.f68 .nil [XI d] (X8 (dgt d))) := by kernel_rfl
def thrV (k b : Int) : Prop :=
 in64 (k - b) ∧ imin (imax (k - b) 1) 26 = thr k b
theorem thrV_eq (k b : Int) : thrV k b = (funC cx0 Tryd.f66 .nil [XI k, XI b] (XI (thr k b))) := by kernel_rfl
def adG : Nat → Int → Int → Int × Int
 | 0, d, k => (d, k)
 | f + 1, d, k => if d ≤ 455 then (d, k) else adG f (d / 35) (k + 36)
def ad0 (d n : Int) (st : Bool) : Int := (if st = true then d / 700 else d / 2) + (if st = true then d / 700 else d / 2) / n
def adp (d n : Int) (st : Bool) : Int := (adG 9 (ad0 d n st) 0).2 + 36 * (adG 9 (ad0 d n st) 0).1 / ((adG 9 (ad0 d n st) 0).1 + 38)
structure AL where
 f : Nat
 d : Int
 k : Int
def adI (r : Int × Int) : Inv where
 σ := AL
 S := fun x => ⟨[(0, XI x.d), (7, XI x.k)], [], 0, false, []⟩
 inv := fun x => 0 ≤ x.d ∧ x.d ≤ 455 * 35 ^ x.f ∧ x.f ≤ 9 ∧ x.k = 36 * (9 - x.f) ∧ adG x.f x.d x.k = r
 μ := fun x => x.f
def adC1 (d n : Int) (st : Bool) : Inv where
 σ := AL
 S := fun x => ⟨[(0, XI x.d), (1, XI n)], [], 0, false, []⟩
 inv := fun x => x.d = if st = true then d / 700 else d / 2
 μ := fun x => 0
def adE (d n : Int) (st : Bool) : Env := { loops := [(0, adI (adG 9 (ad0 d n st) 0))], cuts := [(4, adC1 d n st)] }
def adpV (d n : Int) (st : Bool) : Prop :=
 ((st = true → (700 : Int) ≠ (0 : Int) ∧ ∃ (x : (adC1 d n st).σ), (x.d = if st = true then d / (700 : Int) else d / (2 : Int)) ∧ true = true ∧ IntKind.i64.wrap (d.tdiv 700) = x.d ∧ n = n ∧ True) ∧ (st = false → (2 : Int) ≠ (0 : Int) ∧ ∃ (x : (adC1 d n st).σ), (x.d = if st = true then d / (700 : Int) else d / (2 : Int)) ∧ true = true ∧ IntKind.i64.wrap (d.tdiv 2) = x.d ∧ n = n ∧ True)) ∧ ∀ (x : AL), (x.d = if st = true then d / (700 : Int) else d / (2 : Int)) → n ≠ (0 : Int) ∧ in64 (x.d + IntKind.i64.wrap (x.d.tdiv n)) ∧ (∃ (x_1 : (adI (adG 9 (ad0 d n st) 0)).σ), ((0 : Int) ≤ x_1.d ∧ x_1.d ≤ (455 : Int) * (35 : Int) ^ x_1.f ∧ x_1.f ≤ (9 : Nat) ∧ x_1.k = (36 : Int) * ((9 : Int) - (↑x_1.f : Int)) ∧ adG x_1.f x_1.d x_1.k = adG 9 (ad0 d n st) 0) ∧ true = true ∧ x.d + IntKind.i64.wrap (x.d.tdiv n) = x_1.d ∧ (0 : Int) = x_1.k ∧ True) ∧ ∀ (x : AL), (0 : Int) ≤ x.d ∧ x.d ≤ (455 : Int) * (35 : Int) ^ x.f ∧ x.f ≤ (9 : Nat) ∧ x.k = (36 : Int) * ((9 : Int) - (↑x.f : Int)) ∧ adG x.f x.d x.k = adG 9 (ad0 d n st) 0 → (decide (x.d > (455 : Int)) = true → (35 : Int) ≠ (0 : Int) ∧ in64 (x.k + (36 : Int)) ∧ ∃ (x' : (adI (adG 9 (ad0 d n st) 0)).σ), ((0 : Int) ≤ x'.d ∧ x'.d ≤ (455 : Int) * (35 : Int) ^ x'.f ∧ x'.f ≤ (9 : Nat) ∧ x'.k = (36 : Int) * ((9 : Int) - (↑x'.f : Int)) ∧ adG x'.f x'.d x'.k = adG 9 (ad0 d n st) 0) ∧ x'.f < x.f ∧ true = true ∧ IntKind.i64.wrap (x.d.tdiv 35) = x'.d ∧ x.k + (36 : Int) = x'.k ∧ True) ∧ (decide (x.d > (455 : Int)) = false → in64 ((36 : Int) * x.d) ∧ in64 (x.d + (38 : Int)) ∧ x.d + (38 : Int) ≠ (0 : Int) ∧ in64 (x.k + IntKind.i64.wrap (((36 : Int) * x.d).tdiv (x.d + (38 : Int)))) ∧ x.k + IntKind.i64.wrap (((36 : Int) * x.d).tdiv (x.d + (38 : Int))) = adp d n st)
theorem adpV_eq (d n : Int) (st : Bool) : adpV d n st = (funC cx0 Tryd.f57 (mkSc (adE d n st) (bodyOf Tryd.f57)) [XI d, XI n, XB st] (XI (adp d n st))) := by kernel_rfl
theorem vlu_v (c : Int) : vluV c := by
 unfold vluV vlu
 simp only [w8, in64]
 refine ⟨fun h => ?_, fun h => ⟨fun h => h, fun h => h, fun h1 => ?_, fun h1 => ⟨fun h => h, fun h => h, fun h2 => ?_, fun h2 => ?_⟩⟩⟩
 ·simp only [Bool.and_eq_true, decide_eq_true_eq] at h
  rw [if_pos h]; omega
 ·simp only [Bool.and_eq_true, decide_eq_true_eq] at h1
  rw [if_neg (by omega), if_pos h1]; omega
 ·simp only [Bool.and_eq_true, decide_eq_true_eq] at h2
  rw [if_neg (by omega), if_neg (by omega), if_pos h2]; omega
 ·simp only [Bool.and_eq_false_iff, decide_eq_false_iff_not] at h h1 h2
  rw [if_neg (by omega), if_neg (by omega), if_neg (by omega)]
theorem dgt_v (d : Int) (h0 : 0 ≤ d) (h1 : d < 36) : dgtV d := by
 unfold dgtV dgt
 simp only [w8, in64, decide_eq_true_eq, decide_eq_false_iff_not]
 refine ⟨fun h => ?_, fun h => ?_⟩
 ·rw [if_pos h]; omega
 ·rw [if_neg h]; omega
theorem thr_v (k b : Int) (h : in64 (k - b)) : thrV k b := by
 unfold thrV thr
 exact ⟨h, rfl⟩
theorem thr_rng (k b : Int) : 1 ≤ thr k b ∧ thr k b ≤ 26 := by
 unfold thr imin imax
 split <;> split <;> omega
theorem adG_done (f : Nat) (d k : Int) (h : d ≤ 455) : adG f d k = (d, k) := by
 cases f with
 | zero => rfl
 | succ f => rw [adG, if_pos h]
theorem wdiv {a b : Int} (ha : 0 ≤ a) (hb : 0 < b) (h : a ≤ 9223372036854775807) : IntKind.i64.wrap (a.tdiv b) = a / b := by
 rw [Int.tdiv_eq_ediv_of_nonneg ha]
 have h1 : 0 ≤ a / b := Int.ediv_nonneg ha (by omega)
 have h2 : a / b ≤ a := Int.ediv_le_self b ha
 exact wrap64_in (by omega) (by omega)
theorem adp_v (d n : Int) (st : Bool) (h0 : 0 ≤ d) (h1 : d ≤ 35000000000000000) (hn : 1 ≤ n) : adpV d n st := by
 unfold adpV
 refine ⟨⟨fun h => ⟨by decide, ⟨0, d / 700, 0⟩, by rw [h]; rfl, rfl, ?_, rfl, trivial⟩, fun h => ⟨by decide, ⟨0, d / 2, 0⟩, by rw [h]; rfl, rfl, ?_, rfl, trivial⟩⟩, ?_⟩
 ·exact wdiv h0 (by decide) (by omega)
 ·exact wdiv h0 (by decide) (by omega)
 rintro ⟨_, e, _⟩ he
 have he : e = if st = true then d / 700 else d / 2 := he
 have e0 : 0 ≤ e := by rw [he]; split <;> omega
 have e1 : e ≤ 17500000000000000 := by rw [he]; split <;> omega
 have hd := wdiv e0 (show 0 < n by omega) (by omega)
 have hd1 : 0 ≤ e / n := Int.ediv_nonneg e0 (by omega)
 have hd2 : e / n ≤ e := Int.ediv_le_self n e0
 have ha : e + e / n = ad0 d n st := by rw [he]; rfl
 dsimp only
 rw [hd]
 refine ⟨by omega, by unfold in64; omega, ⟨⟨9, e + e / n, 0⟩, ⟨by show 0 ≤ e + e / n; omega, by show e + e / n ≤ 455 * 35 ^ 9; omega, Nat.le_refl _, rfl, by rw [ha]⟩, rfl, rfl, rfl, trivial⟩, ?_⟩
 rintro ⟨f, x, k⟩ hI
 obtain ⟨i0, i1, i2, i3, i4⟩ : 0 ≤ x ∧ x ≤ 455 * 35 ^ f ∧ f ≤ 9 ∧ k = 36 * (9 - (f : Int)) ∧ adG f x k = adG 9 (ad0 d n st) 0 := hI
 have hp : (35 : Int) ^ f ≤ 35 ^ 9 := by
  have : (35 : Nat) ^ f ≤ 35 ^ 9 := Nat.pow_le_pow_right (by decide) i2
  exact_mod_cast this
 have hx : x ≤ 455 * 35 ^ 9 := by omega
 dsimp only
 refine ⟨fun h => ?_, fun h => ?_⟩
 ·have h : x > 455 := of_decide_eq_true h
  cases f with
  | zero => simp at i1; omega
  | succ f =>
   rw [wdiv i0 (by decide) (by omega)]
   refine ⟨by decide, by unfold in64; omega, ⟨f, x / 35, k + 36⟩, ⟨by show 0 ≤ x / 35; omega, ?_, by show f ≤ 9; omega, by show k + 36 = 36 * (9 - (f : Int)); omega, ?_⟩, by show f < f + 1; omega, rfl, rfl, rfl, trivial⟩
   ·show x / 35 ≤ 455 * 35 ^ f
    rw [Int.pow_succ] at i1
    generalize (35 : Int) ^ f = z at i1
    omega
   ·show adG f (x / 35) (k + 36) = _
    rw [← i4, adG, if_neg (by omega)]
 ·have h : ¬ x > 455 := of_decide_eq_false h
  have hg : (x, k) = adG 9 (ad0 d n st) 0 := by rw [← i4, adG_done _ _ _ (by omega)]
  have hq := wdiv (a := 36 * x) (b := x + 38) (by omega) (by omega) (by omega)
  have hq1 : 0 ≤ 36 * x / (x + 38) := Int.ediv_nonneg (by omega) (by omega)
  have hq2 : 36 * x / (x + 38) ≤ 36 * x := Int.ediv_le_self _ (by omega)
  rw [hq]
  refine ⟨by unfold in64; omega, by unfold in64; omega, by omega, by unfold in64; omega, ?_⟩
  unfold adp
  rw [← hg]
theorem adG_rng : ∀ (f : Nat) (d k : Int), 0 ≤ d → d ≤ 455 * 35 ^ f → 0 ≤ (adG f d k).1 ∧ (adG f d k).1 ≤ 455 ∧ k ≤ (adG f d k).2 ∧ (adG f d k).2 ≤ k + 36 * f
 | 0, d, k, h0, h1 => by simp at h1; simp [adG]; omega
 | f + 1, d, k, h0, h1 => by
  rw [adG]
  split
  ·dsimp only; omega
  ·rw [Int.pow_succ] at h1
   have := adG_rng f (d / 35) (k + 36) (by omega) (by generalize (35 : Int) ^ f = z at h1; omega)
   omega
theorem adp_rng (d n : Int) (st : Bool) (h0 : 0 ≤ d) (h1 : d ≤ 35000000000000000) (hn : 1 ≤ n) : 0 ≤ adp d n st ∧ adp d n st ≤ 400 := by
 have e0 : 0 ≤ (if st = true then d / 700 else d / 2) := by split <;> omega
 have e1 : (if st = true then d / 700 else d / 2) ≤ 17500000000000000 := by split <;> omega
 have hd1 : 0 ≤ (if st = true then d / 700 else d / 2) / n := Int.ediv_nonneg e0 (by omega)
 have hd2 : (if st = true then d / 700 else d / 2) / n ≤ (if st = true then d / 700 else d / 2) := Int.ediv_le_self n e0
 have h := adG_rng 9 (ad0 d n st) 0 (by unfold ad0; omega) (by unfold ad0; omega)
 unfold adp
 generalize adG 9 (ad0 d n st) 0 = p at h
 obtain ⟨a, b⟩ := p
 dsimp only at h ⊢
 have hq1 : 0 ≤ 36 * a / (a + 38) := Int.ediv_nonneg (by omega) (by omega)
 have hq2 : 36 * a / (a + 38) ≤ 36 := by
  apply Int.ediv_le_of_le_mul (by omega)
  omega
 omega
def vluC : CT := C1 (dIK .u8) (fun _ => []) fun c => XI (vlu c)
theorem vlu_ok : CTok Tryd.prog 65 vluC := C1_ok cx0_ok Tryd.func65 rfl (by decide) (dIK_eq .u8).ok (by kernel_rfl) (fun _ => rfl) fun c _ => exv (vluV_eq c) (vlu_v c)
def dgtC : CT := C1 dInt (fun d => [0 ≤ d, d < 36]) fun d => X8 (dgt d)
theorem dgt_ok : CTok Tryd.prog 68 dgtC := C1_ok cx0_ok Tryd.func68 rfl (by decide) dInt_eq.ok (by kernel_rfl) (fun _ => rfl) fun d hc => exv (dgtV_eq d) (dgt_v d (hc _ (by simp)) (hc _ (by simp)))
def thrC : CT := C2 dInt dInt (fun k b => [in64 (k - b)]) fun k b => XI (thr k b)
theorem thr_ok : CTok Tryd.prog 66 thrC := C2_ok cx0_ok Tryd.func66 rfl (by decide) dInt_eq.ok dInt_eq.ok (by kernel_rfl) (fun _ _ => rfl) fun k b hc => exv (thrV_eq k b) (thr_v k b (hc _ (by simp)))
def adpC : CT := C3 dInt dInt dBool (fun d n _ => [0 ≤ d, d ≤ 35000000000000000, 1 ≤ n]) fun d n st => XI (adp d n st)
theorem adp_ok : CTok Tryd.prog 57 adpC := C3_ok cx0_ok Tryd.func57 rfl (by decide) dInt_eq.ok dInt_eq.ok dBool_eq.ok (by kernel_rfl) (fun _ _ _ => rfl) fun d n st hc => exv (adpV_eq d n st) (adp_v d n st (hc _ (by simp)) (hc _ (by simp)) (hc _ (by simp)))
end Go.Proofs.YtaglpckihegmoaaDoorAv
namespace Go.Proofs.YtaglpckihegmoaaDoorAv
open Go Go.RowKit
def nmG (b : Int) : Nat → Int → Int → List Int
 | 0, _, _ => []
 | f + 1, q, k => if q < thr k b then [dgt q] else dgt (thr k b + (q - thr k b) % (36 - thr k b)) :: nmG b f ((q - thr k b) / (36 - thr k b)) (k + 36)
def num (q b : Int) : List Int := nmG b 19 q 36
def nmK (c : List Int) (b : Int) (f : Nat) (q k : Int) : List Int := c ++ nmG b f q k
def cxn : Cx := { cx0 with C := [(66, thrC), (68, dgtC)] }
theorem cxn_ok : cxn.ok Tryd.prog := (cx0_ok.addC dgt_ok).addC thr_ok
structure NS where
 f : Nat
 q : Int
 k : Int
 c : List Int
def nmC (n : Nat) (h : Nat → Int) (c : List Int) (j : Nat) : Int := if j < n then h j else c.getD (j - n) 0
def nmI (n : Nat) (h : Nat → Int) (q0 b : Int) : Inv where
 σ := NS
 S := fun x => ⟨[(0, .sl 0 1 0 (n + x.c.length)), (1, XI x.q), (2, XI b), (7, XI x.k)], [(0, .vec 5 true (n + x.c.length) 1 fun j => [X8 (nmC n h x.c j)])], 1, false, []⟩
 inv := fun x => 0 ≤ x.q ∧ x.q < 10 ^ x.f ∧ x.f ≤ 18 ∧ x.k = 36 * (19 - x.f) ∧ nmK x.c b (x.f + 1) x.q x.k = num q0 b ∧ x.c.length + x.f = 18
 μ := fun x => x.f
def nmE (n : Nat) (h : Nat → Int) (q0 b : Int) : Env := { loops := [(0, nmI n h q0 b)] }
def numV (n : Nat) (h : Nat → Int) (q b : Int) : Prop :=
 (∃ (x : (nmI n h q b).σ), ((0 : Int) ≤ x.q ∧ x.q < (10 : Int) ^ x.f ∧ x.f ≤ (18 : Nat) ∧ x.k = (36 : Int) * ((19 : Int) - (↑x.f : Int)) ∧ nmK x.c b (x.f + (1 : Nat)) x.q x.k = num q b ∧ x.c.length + x.f = (18 : Nat)) ∧ true = true ∧ XV.sl 0 1 0 n = XV.sl 0 1 0 (n + x.c.length) ∧ q = x.q ∧ b = b ∧ (36 : Int) = x.k ∧ (((5 : TypeId) = (5 : TypeId) ∧ true = true ∧ (1 : Nat) = (1 : Nat)) ∧ n = n + x.c.length ∧ ∀ (j : Nat), j < n → [X8 (h j)] = [X8 (nmC n h x.c j)]) ∧ True) ∧ ∀ (x : NS), (0 : Int) ≤ x.q ∧ x.q < (10 : Int) ^ x.f ∧ x.f ≤ (18 : Nat) ∧ x.k = (36 : Int) * ((19 : Int) - (↑x.f : Int)) ∧ nmK x.c b (x.f + (1 : Nat)) x.q x.k = num q b ∧ x.c.length + x.f = (18 : Nat) → in64 (x.k - b) ∧ (decide (x.q < thr x.k b) = true → (0 : Int) ≤ x.q ∧ x.q < (36 : Int) ∧ n + x.c.length = n + x.c.length ∧ (n + x.c.length + (1 : Nat)) * (1 : Nat) ≤ (140737488355328 : Nat) ∧ n + x.c.length + (1 : Nat) ≤ (140737488355328 : Nat) ∧ ((5 : TypeId) = (5 : TypeId) ∧ true = true ∧ (1 : Nat) = (1 : Nat) ∧ (1 : Nat) = (1 : Nat)) ∧ n + x.c.length + (1 : Nat) = n + x.c.length + (1 : Nat) ∧ n + x.c.length + (1 : Nat) = n + (num q b).length ∧ ∀ (j : Nat), j < n + (num q b).length → [X8 (bif j.blt (n + x.c.length) then nmC n h x.c j else dgt x.q)] = [X8 (nmC n h (num q b) j)]) ∧ (decide (x.q < thr x.k b) = false → in64 (x.q - thr x.k b) ∧ in64 ((36 : Int) - thr x.k b) ∧ (36 : Int) - thr x.k b ≠ (0 : Int) ∧ in64 (thr x.k b + (x.q - thr x.k b).tmod ((36 : Int) - thr x.k b)) ∧ (0 : Int) ≤ thr x.k b + (x.q - thr x.k b).tmod ((36 : Int) - thr x.k b) ∧ thr x.k b + (x.q - thr x.k b).tmod ((36 : Int) - thr x.k b) < (36 : Int) ∧ n + x.c.length = n + x.c.length ∧ (n + x.c.length + (1 : Nat)) * (1 : Nat) ≤ (140737488355328 : Nat) ∧ n + x.c.length + (1 : Nat) ≤ (140737488355328 : Nat) ∧ in64 (x.q - thr x.k b) ∧ in64 ((36 : Int) - thr x.k b) ∧ (36 : Int) - thr x.k b ≠ (0 : Int) ∧ in64 (x.k + (36 : Int)) ∧ ∃ (x' : (nmI n h q b).σ), ((0 : Int) ≤ x'.q ∧ x'.q < (10 : Int) ^ x'.f ∧ x'.f ≤ (18 : Nat) ∧ x'.k = (36 : Int) * ((19 : Int) - (↑x'.f : Int)) ∧ nmK x'.c b (x'.f + (1 : Nat)) x'.q x'.k = num q b ∧ x'.c.length + x'.f = (18 : Nat)) ∧ x'.f < x.f ∧ true = true ∧ XV.sl 0 1 0 (n + x.c.length + (1 : Nat)) = XV.sl 0 1 0 (n + x'.c.length) ∧ IntKind.i64.wrap ((x.q - thr x.k b).tdiv ((36 : Int) - thr x.k b)) = x'.q ∧ b = b ∧ x.k + (36 : Int) = x'.k ∧ (((5 : TypeId) = (5 : TypeId) ∧ true = true ∧ (1 : Nat) = (1 : Nat)) ∧ n + x.c.length + (1 : Nat) = n + x'.c.length ∧ ∀ (j : Nat), j < n + x.c.length + (1 : Nat) → [X8 (bif j.blt (n + x.c.length) then nmC n h x.c j else dgt (thr x.k b + (x.q - thr x.k b).tmod ((36 : Int) - thr x.k b)))] = [X8 (nmC n h x'.c j)]) ∧ True)
theorem numV_eq (n : Nat) (h : Nat → Int) (q b : Int) : numV n h q b = (funS cxn Tryd.f56 (mkSc (nmE n h q b) (bodyOf Tryd.f56)) 5 1 n (fun j => [X8 (h j)]) [XI q, XI b] (n + (num q b).length) (fun j => [X8 (nmC n h (num q b) j)])) := by kernel_rfl
theorem nmG_no {b q k : Int} {f : Nat} (h : ¬ q < thr k b) : nmG b (f + 1) q k = dgt (thr k b + (q - thr k b) % (36 - thr k b)) :: nmG b f ((q - thr k b) / (36 - thr k b)) (k + 36) := by rw [nmG, if_neg h]
theorem nmG_len (b : Int) : ∀ (f : Nat) (q k : Int), (nmG b f q k).length ≤ f
 | 0, q, k => Nat.le_refl _
 | f + 1, q, k => by
  rw [nmG]
  split
  ·simp
  ·have := nmG_len b f ((q - thr k b) / (36 - thr k b)) (k + 36)
   simp only [List.length_cons]; omega
theorem num_len (q b : Int) : (num q b).length ≤ 19 := nmG_len b 19 q 36
theorem nmC_snoc (n : Nat) (h : Nat → Int) (c : List Int) (d : Int) (j : Nat) (hj : j < n + c.length + 1) : nmC n h (c ++ [d]) j = bif Nat.blt j (n + c.length) then nmC n h c j else d := by
 unfold nmC
 rw [bltN]
 by_cases e : j < n + c.length
 ·rw [decide_eq_true e]
  by_cases e1 : j < n
  ·rw [if_pos e1, if_pos e1]; rfl
  ·rw [if_neg e1, if_neg e1, List.getD_eq_getElem?_getD, List.getD_eq_getElem?_getD, List.getElem?_append_left (by omega)]; rfl
 ·rw [decide_eq_false e, if_neg (by omega), show j - n = c.length by omega]
  simp
theorem nmC_snoc' (n : Nat) (h : Nat → Int) (c : List Int) (d : Int) (j : Nat) (hj : j < n + c.length + 1) : ([X8 (bif j.blt (n + c.length) then nmC n h c j else d)] : List XV) = [X8 (nmC n h (c ++ [d]) j)] := by
 rw [nmC_snoc n h c d j hj]
theorem num_v (n : Nat) (h : Nat → Int) (q b : Int) (h0 : 0 ≤ q) (h1 : q < 1000000000000000000) (hb : -1000 ≤ b) (hb1 : b ≤ 1000) (hn : n ≤ 1000000) : numV n h q b := by
 unfold numV
 refine ⟨⟨⟨18, q, 36, []⟩, ⟨h0, h1, Nat.le_refl _, rfl, rfl, rfl⟩, rfl, rfl, rfl, rfl, rfl, ⟨⟨rfl, rfl, rfl⟩, rfl, fun j hj => by show [X8 (h j)] = [X8 (nmC n h [] j)]; unfold nmC; rw [if_pos hj]⟩, trivial⟩, ?_⟩
 rintro ⟨f, q', k, c⟩ hI
 obtain ⟨i0, i1, i2, i3, i4, i5⟩ : 0 ≤ q' ∧ q' < 10 ^ f ∧ f ≤ 18 ∧ k = 36 * (19 - (f : Int)) ∧ nmK c b (f + 1) q' k = num q b ∧ c.length + f = 18 := hI
 unfold nmK at i4
 have hp : (10 : Int) ^ f ≤ 10 ^ 18 := by
  have : (10 : Nat) ^ f ≤ 10 ^ 18 := Nat.pow_le_pow_right (by decide) i2
  exact_mod_cast this
 have ht := thr_rng k b
 have hq : q' < 10 ^ 18 := by omega
 dsimp only
 refine ⟨by unfold in64; omega, fun h1 => ?_, fun h1 => ?_⟩
 ·have h1 : q' < thr k b := of_decide_eq_true h1
  have hg : num q b = c ++ [dgt q'] := by rw [← i4, nmG, if_pos h1]
  refine ⟨by omega, by omega, rfl, by omega, by omega, ⟨rfl, rfl, rfl, rfl⟩, rfl, by rw [hg, List.length_append]; rfl, fun j hj => ?_⟩
  rw [hg]
  exact nmC_snoc' n h c _ j (by rw [hg, List.length_append] at hj; exact hj)
 ·have hlt : ¬ q' < thr k b := of_decide_eq_false h1
  clear h1
  cases f with
  | zero => simp at i1; omega
  | succ f =>
   have hg : c ++ (dgt (thr k b + (q' - thr k b) % (36 - thr k b)) :: nmG b (f + 1) ((q' - thr k b) / (36 - thr k b)) (k + 36)) = num q b := by rw [← i4, nmG_no hlt]
   generalize thr k b = t at *
   have e1 : (q' - t).tmod (36 - t) = (q' - t) % (36 - t) := Int.tmod_eq_emod_of_nonneg (by omega)
   have e2 := wdiv (a := q' - t) (b := 36 - t) (by omega) (by omega) (by omega)
   rw [e1, e2]
   have r1 : 0 ≤ (q' - t) % (36 - t) := Int.emod_nonneg _ (by omega)
   have r2 : (q' - t) % (36 - t) < 36 - t := Int.emod_lt_of_pos _ (by omega)
   have r3 : 0 ≤ (q' - t) / (36 - t) := Int.ediv_nonneg (by omega) (by omega)
   have r4 : (q' - t) / (36 - t) < 10 ^ f := by
    rw [Int.pow_succ] at i1
    have hp0 : (0 : Int) ≤ 10 ^ f := Int.le_of_lt (Int.pow_pos (by decide))
    apply Int.ediv_lt_of_lt_mul (by omega)
    generalize (10 : Int) ^ f = z at *
    have : z * 10 ≤ z * (36 - t) := Int.mul_le_mul_of_nonneg_left (by omega) hp0
    omega
   refine ⟨by unfold in64; omega, by unfold in64; omega, by omega, by unfold in64; omega, by omega, by omega, rfl, by omega, by omega, by unfold in64; omega, by unfold in64; omega, by omega, by unfold in64; omega,
    ⟨f, (q' - t) / (36 - t), k + 36, c ++ [dgt (t + (q' - t) % (36 - t))]⟩, ⟨r3, r4, by show f ≤ 18; omega, by show k + 36 = 36 * (19 - (f : Int)); omega, ?_, by show (c ++ [_]).length + f = 18; rw [List.length_append]; show c.length + 1 + f = 18; omega⟩, by show f < f + 1; omega, rfl, ?_, rfl, rfl, rfl, ⟨⟨rfl, rfl, rfl⟩, ?_, fun j hj => nmC_snoc' n h c _ j hj⟩, trivial⟩
   ·show (c ++ [_]) ++ _ = _
    rw [List.append_assoc]
    exact hg
   ·dsimp only; rw [List.length_append]; rfl
   ·dsimp only; rw [List.length_append]; rfl
def int8 : XV → Int
 | .v (.p (.int .u8 i)) => i
 | _ => 0
def numC : SvT := fun n f rest => match rest with
 | [.v (.p (.int .i64 q)), .v (.p (.int .i64 b))] => some ([∀ j, j < n → f j = [X8 (int8 (xget (f j) 0))], 0 ≤ q, q < 1000000000000000000, -1000 ≤ b, b ≤ 1000, n ≤ 1000000], n + (num q b).length, fun j => [X8 (nmC n (fun j => int8 (xget (f j) 0)) (num q b) j)])
 | _ => none
def cxe : Cx := { cx0 with C := [(57, adpC)], L := [(56, itS 5 1 numC)] }
def eo0 (g : Nat → Int) : Nat → List Int
 | 0 => []
 | i + 1 => if g i < 128 then eo0 g i ++ [g i] else eo0 g i
def mnr (g : Nat → Int) (n : Int) : Nat → Int
 | 0 => 1114112
 | i + 1 => if g i ≥ n ∧ g i < mnr g n i then g i else mnr g n i
structure ES where
 h : Int
 d : Int
 b : Int
 o : List Int
def stp (h0 m : Int) (s : ES) (r : Int) : ES :=
 if r = m then ⟨s.h + 1, 0, adp s.d (s.h + 1) (s.h == h0), s.o ++ num s.d s.b⟩ else if r < m then { s with d := s.d + 1 } else s
def fol (g : Nat → Int) (h0 m : Int) (s : ES) : Nat → ES
 | 0 => s
 | i + 1 => stp h0 m (fol g h0 m s i) (g i)
def rnd (g : Nat → Int) (len : Nat) (h0 n : Int) (s : ES) : ES :=
 fol g h0 (mnr g n len) { s with d := s.d + (mnr g n len - n) * (s.h + 1) } len
def encG (g : Nat → Int) (len : Nat) (h0 : Int) : Nat → Int → ES → List Int × Int
 | 0, _, s => if s.o.length > 63 then ([], 2) else (s.o, 0)
 | f + 1, n, s => if s.o.length > 63 then ([], 2) else if s.h < len then encG g len h0 f (mnr g n len + 1) { rnd g len h0 n s with d := (rnd g len h0 n s).d + 1 } else (s.o, 0)
def eo1 (g : Nat → Int) (len : Nat) : List Int := if 0 < (eo0 g len).length then eo0 g len ++ [45] else eo0 g len
def encR (g : Nat → Int) (len : Nat) : List Int × Int := encG g len (eo0 g len).length len 128 ⟨(eo0 g len).length, 0, 72, eo1 g len⟩
def txtO (o : List Int) : ByteArray := txtOf o.length fun j => UInt8.ofNat (o.getD (0 + j) 0).toNat
structure OS where
 n : Int
 s : ES
 f : Nat
abbrev rnX (q : Sq Int) : XV := .fz q.n 1 fun i => [X32 (q.g i)]
def clt (g : Nat → Int) (n : Int) : Nat → Int
 | 0 => 0
 | i + 1 => if g i < n then clt g n i + 1 else clt g n i
def rowO (o : List Int) : XRow := .vec 5 true o.length 1 fun j => [X8 (o.getD j 0)]
def oOK (o : List Int) : Prop := ∀ x ∈ o, 0 ≤ x ∧ x < 128
def enI0 (q : Sq Int) : Inv where
 σ := IL
 S := fun x => ⟨[(0, rnX q), (4, .sl 0 1 0 (eo0 q.g x.i).length), (17, rnX q), (18, XI q.n), (19, XI x.i)], [(0, rowO (eo0 q.g x.i))], 1, false, []⟩
 inv := fun x => x.i ≤ q.n
 μ := fun x => q.n - x.i
structure OK2 (q : Sq Int) (h0 : Int) (x : OS) : Prop where
 n : 128 ≤ x.n ∧ x.n ≤ 1114112
 h : x.s.h = clt q.g x.n q.n
 h0 : 0 ≤ h0 ∧ h0 ≤ x.s.h
 d : 0 ≤ x.s.d ∧ x.s.d ≤ (q.n - x.f) * 2300000000
 b : 0 ≤ x.s.b ∧ x.s.b ≤ 400
 o : oOK x.s.o
 l : x.s.o.length ≤ 50000
 f : (q.n : Int) - x.s.h ≤ x.f ∧ x.f ≤ q.n
def enI2 (q : Sq Int) : Inv where
 σ := OS
 S := fun x => ⟨[(0, rnX q), (4, .sl 0 1 0 x.s.o.length), (7, XI x.s.h), (8, XI (eo0 q.g q.n).length), (9, X32 x.n), (10, XI x.s.d), (11, XI x.s.b)], [(0, rowO x.s.o)], 1, false, []⟩
 inv := fun x => OK2 q (eo0 q.g q.n).length x ∧ encG q.g q.n (eo0 q.g q.n).length x.f x.n x.s = encR q.g q.n
 μ := fun x => x.f
def enI4 (q : Sq Int) (y : OS) : Inv where
 σ := IL
 S := fun x => ⟨[(0, rnX q), (4, .sl 0 1 0 y.s.o.length), (7, XI y.s.h), (8, XI (eo0 q.g q.n).length), (9, X32 y.n), (10, XI y.s.d), (11, XI y.s.b), (12, X32 (mnr q.g y.n x.i)), (46, rnX q), (47, XI q.n), (48, XI x.i)], [(0, rowO y.s.o)], 1, false, []⟩
 inv := fun x => x.i ≤ q.n
 μ := fun x => q.n - x.i
def fo1 (q : Sq Int) (y : OS) (i : Nat) : ES := fol q.g (eo0 q.g q.n).length (mnr q.g y.n q.n) { y.s with d := y.s.d + (mnr q.g y.n q.n - y.n) * (y.s.h + 1) } i
def enI6 (q : Sq Int) (y : OS) : Inv where
 σ := IL
 S := fun x => ⟨[(0, rnX q), (4, .sl 0 1 0 (fo1 q y x.i).o.length), (7, XI (fo1 q y x.i).h), (8, XI (eo0 q.g q.n).length), (9, X32 (mnr q.g y.n q.n)), (10, XI (fo1 q y x.i).d), (11, XI (fo1 q y x.i).b), (72, rnX q), (73, XI q.n), (74, XI x.i)], [(0, rowO (fo1 q y x.i).o)], 1, false, []⟩
 inv := fun x => x.i ≤ q.n
 μ := fun x => q.n - x.i
def enC (q : Sq Int) : Inv where
 σ := IL
 S := fun x => ⟨[(0, rnX q), (4, .sl 0 1 0 (eo1 q.g q.n).length), (7, XI (eo0 q.g q.n).length), (8, XI (eo0 q.g q.n).length)], [(0, rowO (eo1 q.g q.n))], 1, false, []⟩
 inv := fun x => True
 μ := fun x => 0
def enE (q : Sq Int) : Env := { cuts := [(12, enC q)], loops := [(0, enI0 q), (2, enI2 q)], loopsP := [(4, ⟨OS, enI4 q⟩), (6, ⟨OS, enI6 q⟩)], own := [(2, [(4, 5, 1)])] }
def encV (q : Sq Int) : Prop :=
 (∃ (x : (enI0 q).σ), x.i.le q.n ∧ true = true ∧ ((XV.fz q.n 1 fun (i : Nat) => [X32 (q.g i)]) = XV.fz q.n 1 fun (i : Nat) => [X32 (q.g i)]) ∧ XV.sl 0 1 0 0 = XV.sl 0 1 0 (eo0 q.g x.i).length ∧ ((XV.fz q.n 1 fun (i : Nat) => [X32 (q.g i)]) = XV.fz q.n 1 fun (i : Nat) => [X32 (q.g i)]) ∧ (↑q.n : Int) = (↑q.n : Int) ∧ (0 : Int) = (↑x.i : Int) ∧ (((5 : Nat) = (5 : TypeId) ∧ true = true ∧ (1 : Nat) = (1 : Nat)) ∧ (0 : Nat) = (eo0 q.g x.i).length ∧ ∀ (j : Nat), j < (0 : Nat) → [] = [X8 ((eo0 q.g x.i).getD j 0)]) ∧ True) ∧ ∀ (x : IL), x.i.le q.n → (decide ((↑x.i : Int) < (↑q.n : Int)) = true → (0 : Int) ≤ (↑x.i : Int) ∧ (↑x.i : Int) < (↑q.n : Int) ∧ (decide (q.g (↑x.i : Int).toNat < (128 : Int)) = true → (eo0 q.g x.i).length = (eo0 q.g x.i).length ∧ ((eo0 q.g x.i).length + (1 : Nat)) * (1 : Nat) ≤ (140737488355328 : Nat) ∧ (eo0 q.g x.i).length + (1 : Nat) ≤ (140737488355328 : Nat) ∧ in64 ((↑x.i : Int) + (1 : Int)) ∧ ∃ (x' : (enI0 q).σ), x'.i.le q.n ∧ q.n - x'.i < q.n - x.i ∧ true = true ∧ ((XV.fz q.n 1 fun (i : Nat) => [X32 (q.g i)]) = XV.fz q.n 1 fun (i : Nat) => [X32 (q.g i)]) ∧ XV.sl 0 1 0 ((eo0 q.g x.i).length + (1 : Nat)) = XV.sl 0 1 0 (eo0 q.g x'.i).length ∧ ((XV.fz q.n 1 fun (i : Nat) => [X32 (q.g i)]) = XV.fz q.n 1 fun (i : Nat) => [X32 (q.g i)]) ∧ (↑q.n : Int) = (↑q.n : Int) ∧ (↑x.i : Int) + (1 : Int) = (↑x'.i : Int) ∧ (((5 : TypeId) = (5 : TypeId) ∧ true = true ∧ (1 : Nat) = (1 : Nat)) ∧ (eo0 q.g x.i).length + (1 : Nat) = (eo0 q.g x'.i).length ∧ ∀ (j : Nat), j < (eo0 q.g x.i).length + (1 : Nat) → [X8 (bif j.blt (eo0 q.g x.i).length then (eo0 q.g x.i).getD j 0 else IntKind.u8.wrap (q.g (↑x.i : Int).toNat))] = [X8 ((eo0 q.g x'.i).getD j 0)]) ∧ True) ∧ (decide (q.g (↑x.i : Int).toNat < (128 : Int)) = false → in64 ((↑x.i : Int) + (1 : Int)) ∧ ∃ (x' : (enI0 q).σ), x'.i.le q.n ∧ q.n - x'.i < q.n - x.i ∧ true = true ∧ ((XV.fz q.n 1 fun (i : Nat) => [X32 (q.g i)]) = XV.fz q.n 1 fun (i : Nat) => [X32 (q.g i)]) ∧ XV.sl 0 1 0 (eo0 q.g x.i).length = XV.sl 0 1 0 (eo0 q.g x'.i).length ∧ ((XV.fz q.n 1 fun (i : Nat) => [X32 (q.g i)]) = XV.fz q.n 1 fun (i : Nat) => [X32 (q.g i)]) ∧ (↑q.n : Int) = (↑q.n : Int) ∧ (↑x.i : Int) + (1 : Int) = (↑x'.i : Int) ∧ (((5 : TypeId) = (5 : TypeId) ∧ true = true ∧ (1 : Nat) = (1 : Nat)) ∧ (eo0 q.g x.i).length = (eo0 q.g x'.i).length ∧ ∀ (j : Nat), j < (eo0 q.g x.i).length → [X8 ((eo0 q.g x.i).getD j 0)] = [X8 ((eo0 q.g x'.i).getD j 0)]) ∧ True)) ∧ (decide ((↑x.i : Int) < (↑q.n : Int)) = false → ((decide ((↑(eo0 q.g x.i).length : Int) > (0 : Int)) = true → (eo0 q.g x.i).length = (eo0 q.g x.i).length ∧ ((eo0 q.g x.i).length + (1 : Nat)) * (1 : Nat) ≤ (140737488355328 : Nat) ∧ (eo0 q.g x.i).length + (1 : Nat) ≤ (140737488355328 : Nat) ∧ ∃ (x_1 : (enC q).σ), True ∧ true = true ∧ ((XV.fz q.n 1 fun (i : Nat) => [X32 (q.g i)]) = XV.fz q.n 1 fun (i : Nat) => [X32 (q.g i)]) ∧ XV.sl 0 1 0 ((eo0 q.g x.i).length + (1 : Nat)) = XV.sl 0 1 0 (eo1 q.g q.n).length ∧ (↑(eo0 q.g x.i).length : Int) = (↑(eo0 q.g q.n).length : Int) ∧ (↑(eo0 q.g x.i).length : Int) = (↑(eo0 q.g q.n).length : Int) ∧ (((5 : TypeId) = (5 : TypeId) ∧ true = true ∧ (1 : Nat) = (1 : Nat)) ∧ (eo0 q.g x.i).length + (1 : Nat) = (eo1 q.g q.n).length ∧ ∀ (j : Nat), j < (eo0 q.g x.i).length + (1 : Nat) → [X8 (bif j.blt (eo0 q.g x.i).length then (eo0 q.g x.i).getD j 0 else (45 : Int))] = [X8 ((eo1 q.g q.n).getD j 0)]) ∧ True) ∧ (decide ((↑(eo0 q.g x.i).length : Int) > (0 : Int)) = false → ∃ (x_1 : (enC q).σ), True ∧ true = true ∧ ((XV.fz q.n 1 fun (i : Nat) => [X32 (q.g i)]) = XV.fz q.n 1 fun (i : Nat) => [X32 (q.g i)]) ∧ XV.sl 0 1 0 (eo0 q.g x.i).length = XV.sl 0 1 0 (eo1 q.g q.n).length ∧ (↑(eo0 q.g x.i).length : Int) = (↑(eo0 q.g q.n).length : Int) ∧ (↑(eo0 q.g x.i).length : Int) = (↑(eo0 q.g q.n).length : Int) ∧ (((5 : TypeId) = (5 : TypeId) ∧ true = true ∧ (1 : Nat) = (1 : Nat)) ∧ (eo0 q.g x.i).length = (eo1 q.g q.n).length ∧ ∀ (j : Nat), j < (eo0 q.g x.i).length → [X8 ((eo0 q.g x.i).getD j 0)] = [X8 ((eo1 q.g q.n).getD j 0)]) ∧ True)) ∧ ∀ (x : IL), True → (∃ (x : (enI2 q).σ), (OK2 q (↑(eo0 q.g q.n).length : Int) x ∧ encG q.g q.n (↑(eo0 q.g q.n).length : Int) x.f x.n x.s = encR q.g q.n) ∧ true = true ∧ ((XV.fz q.n 1 fun (i : Nat) => [X32 (q.g i)]) = XV.fz q.n 1 fun (i : Nat) => [X32 (q.g i)]) ∧ XV.sl 0 1 0 (eo1 q.g q.n).length = XV.sl 0 1 0 x.s.o.length ∧ (↑(eo0 q.g q.n).length : Int) = x.s.h ∧ (↑(eo0 q.g q.n).length : Int) = (↑(eo0 q.g q.n).length : Int) ∧ (128 : Int) = x.n ∧ (0 : Int) = x.s.d ∧ (72 : Int) = x.s.b ∧ (((5 : TypeId) = (5 : TypeId) ∧ true = true ∧ (1 : Nat) = (1 : Nat)) ∧ (eo1 q.g q.n).length = x.s.o.length ∧ ∀ (j : Nat), j < (eo1 q.g q.n).length → [X8 ((eo1 q.g q.n).getD j 0)] = [X8 (x.s.o.getD j 0)]) ∧ True) ∧ ∀ (x : OS), OK2 q (↑(eo0 q.g q.n).length : Int) x ∧ encG q.g q.n (↑(eo0 q.g q.n).length : Int) x.f x.n x.s = encR q.g q.n → (decide (x.s.h < (↑q.n : Int)) = true → (decide ((↑x.s.o.length : Int) > (63 : Int)) = true → ⟨#[]⟩ = txtO (encR q.g q.n).fst ∧ (2 : Int) = (encR q.g q.n).snd ∧ True) ∧ (decide ((↑x.s.o.length : Int) > (63 : Int)) = false → ∃ (p : { α := OS, J := enI4 q : InvP }.α), (∃ (x_1 : ({ α := OS, J := enI4 q : InvP }.J p).σ), x_1.i.le q.n ∧ true = true ∧ ((XV.fz q.n 1 fun (i : Nat) => [X32 (q.g i)]) = XV.fz q.n 1 fun (i : Nat) => [X32 (q.g i)]) ∧ XV.sl 0 1 0 x.s.o.length = XV.sl 0 1 0 p.s.o.length ∧ x.s.h = p.s.h ∧ (↑(eo0 q.g q.n).length : Int) = (↑(eo0 q.g q.n).length : Int) ∧ x.n = p.n ∧ x.s.d = p.s.d ∧ x.s.b = p.s.b ∧ (1114112 : Int) = mnr q.g p.n x_1.i ∧ ((XV.fz q.n 1 fun (i : Nat) => [X32 (q.g i)]) = XV.fz q.n 1 fun (i : Nat) => [X32 (q.g i)]) ∧ (↑q.n : Int) = (↑q.n : Int) ∧ (0 : Int) = (↑x_1.i : Int) ∧ (((5 : TypeId) = (5 : TypeId) ∧ true = true ∧ (1 : Nat) = (1 : Nat)) ∧ x.s.o.length = p.s.o.length ∧ ∀ (j : Nat), j < x.s.o.length → [X8 (x.s.o.getD j 0)] = [X8 (p.s.o.getD j 0)]) ∧ True) ∧ ∀ (x_1 : IL), x_1.i.le q.n → (decide ((↑x_1.i : Int) < (↑q.n : Int)) = true → (0 : Int) ≤ (↑x_1.i : Int) ∧ (↑x_1.i : Int) < (↑q.n : Int) ∧ ((decide (q.g (↑x_1.i : Int).toNat ≥ p.n) && decide (q.g (↑x_1.i : Int).toNat < mnr q.g p.n x_1.i)) = true → in64 ((↑x_1.i : Int) + (1 : Int)) ∧ ∃ (x' : ({ α := OS, J := enI4 q : InvP }.J p).σ), x'.i.le q.n ∧ q.n - x'.i < q.n - x_1.i ∧ true = true ∧ ((XV.fz q.n 1 fun (i : Nat) => [X32 (q.g i)]) = XV.fz q.n 1 fun (i : Nat) => [X32 (q.g i)]) ∧ XV.sl 0 1 0 p.s.o.length = XV.sl 0 1 0 p.s.o.length ∧ p.s.h = p.s.h ∧ (↑(eo0 q.g q.n).length : Int) = (↑(eo0 q.g q.n).length : Int) ∧ p.n = p.n ∧ p.s.d = p.s.d ∧ p.s.b = p.s.b ∧ q.g (↑x_1.i : Int).toNat = mnr q.g p.n x'.i ∧ ((XV.fz q.n 1 fun (i : Nat) => [X32 (q.g i)]) = XV.fz q.n 1 fun (i : Nat) => [X32 (q.g i)]) ∧ (↑q.n : Int) = (↑q.n : Int) ∧ (↑x_1.i : Int) + (1 : Int) = (↑x'.i : Int) ∧ (((5 : TypeId) = (5 : TypeId) ∧ true = true ∧ (1 : Nat) = (1 : Nat)) ∧ p.s.o.length = p.s.o.length ∧ ∀ (j : Nat), j < p.s.o.length → [X8 (p.s.o.getD j 0)] = [X8 (p.s.o.getD j 0)]) ∧ True) ∧ ((decide (q.g (↑x_1.i : Int).toNat ≥ p.n) && decide (q.g (↑x_1.i : Int).toNat < mnr q.g p.n x_1.i)) = false → in64 ((↑x_1.i : Int) + (1 : Int)) ∧ ∃ (x' : ({ α := OS, J := enI4 q : InvP }.J p).σ), x'.i.le q.n ∧ q.n - x'.i < q.n - x_1.i ∧ true = true ∧ ((XV.fz q.n 1 fun (i : Nat) => [X32 (q.g i)]) = XV.fz q.n 1 fun (i : Nat) => [X32 (q.g i)]) ∧ XV.sl 0 1 0 p.s.o.length = XV.sl 0 1 0 p.s.o.length ∧ p.s.h = p.s.h ∧ (↑(eo0 q.g q.n).length : Int) = (↑(eo0 q.g q.n).length : Int) ∧ p.n = p.n ∧ p.s.d = p.s.d ∧ p.s.b = p.s.b ∧ mnr q.g p.n x_1.i = mnr q.g p.n x'.i ∧ ((XV.fz q.n 1 fun (i : Nat) => [X32 (q.g i)]) = XV.fz q.n 1 fun (i : Nat) => [X32 (q.g i)]) ∧ (↑q.n : Int) = (↑q.n : Int) ∧ (↑x_1.i : Int) + (1 : Int) = (↑x'.i : Int) ∧ (((5 : TypeId) = (5 : TypeId) ∧ true = true ∧ (1 : Nat) = (1 : Nat)) ∧ p.s.o.length = p.s.o.length ∧ ∀ (j : Nat), j < p.s.o.length → [X8 (p.s.o.getD j 0)] = [X8 (p.s.o.getD j 0)]) ∧ True)) ∧ (decide ((↑x_1.i : Int) < (↑q.n : Int)) = false → in64 (IntKind.i32.wrap (mnr q.g p.n x_1.i - p.n)) ∧ in64 (p.s.h + (1 : Int)) ∧ in64 (IntKind.i32.wrap (mnr q.g p.n x_1.i - p.n) * (p.s.h + (1 : Int))) ∧ in64 (p.s.d + IntKind.i32.wrap (mnr q.g p.n x_1.i - p.n) * (p.s.h + (1 : Int))) ∧ ∃ (p_1 : { α := OS, J := enI6 q : InvP }.α), (∃ (x : ({ α := OS, J := enI6 q : InvP }.J p_1).σ), x.i.le q.n ∧ true = true ∧ ((XV.fz q.n 1 fun (i : Nat) => [X32 (q.g i)]) = XV.fz q.n 1 fun (i : Nat) => [X32 (q.g i)]) ∧ XV.sl 0 1 0 p.s.o.length = XV.sl 0 1 0 (fo1 q p_1 x.i).o.length ∧ p.s.h = (fo1 q p_1 x.i).h ∧ (↑(eo0 q.g q.n).length : Int) = (↑(eo0 q.g q.n).length : Int) ∧ mnr q.g p.n x_1.i = mnr q.g p_1.n q.n ∧ p.s.d + IntKind.i32.wrap (mnr q.g p.n x_1.i - p.n) * (p.s.h + (1 : Int)) = (fo1 q p_1 x.i).d ∧ p.s.b = (fo1 q p_1 x.i).b ∧ ((XV.fz q.n 1 fun (i : Nat) => [X32 (q.g i)]) = XV.fz q.n 1 fun (i : Nat) => [X32 (q.g i)]) ∧ (↑q.n : Int) = (↑q.n : Int) ∧ (0 : Int) = (↑x.i : Int) ∧ (((5 : TypeId) = (5 : TypeId) ∧ true = true ∧ (1 : Nat) = (1 : Nat)) ∧ p.s.o.length = (fo1 q p_1 x.i).o.length ∧ ∀ (j : Nat), j < p.s.o.length → [X8 (p.s.o.getD j 0)] = [X8 ((fo1 q p_1 x.i).o.getD j 0)]) ∧ True) ∧ ∀ (x_2 : IL), x_2.i.le q.n → (decide ((↑x_2.i : Int) < (↑q.n : Int)) = true → (0 : Int) ≤ (↑x_2.i : Int) ∧ (↑x_2.i : Int) < (↑q.n : Int) ∧ (decide (q.g (↑x_2.i : Int).toNat < mnr q.g p_1.n q.n) = true → in64 ((fo1 q p_1 x_2.i).d + (1 : Int)) ∧ ((q.g (↑x_2.i : Int).toNat != mnr q.g p_1.n q.n) = true → in64 ((↑x_2.i : Int) + (1 : Int)) ∧ ∃ (x' : ({ α := OS, J := enI6 q : InvP }.J p_1).σ), x'.i.le q.n ∧ q.n - x'.i < q.n - x_2.i ∧ true = true ∧ ((XV.fz q.n 1 fun (i : Nat) => [X32 (q.g i)]) = XV.fz q.n 1 fun (i : Nat) => [X32 (q.g i)]) ∧ XV.sl 0 1 0 (fo1 q p_1 x_2.i).o.length = XV.sl 0 1 0 (fo1 q p_1 x'.i).o.length ∧ (fo1 q p_1 x_2.i).h = (fo1 q p_1 x'.i).h ∧ (↑(eo0 q.g q.n).length : Int) = (↑(eo0 q.g q.n).length : Int) ∧ mnr q.g p_1.n q.n = mnr q.g p_1.n q.n ∧ (fo1 q p_1 x_2.i).d + (1 : Int) = (fo1 q p_1 x'.i).d ∧ (fo1 q p_1 x_2.i).b = (fo1 q p_1 x'.i).b ∧ ((XV.fz q.n 1 fun (i : Nat) => [X32 (q.g i)]) = XV.fz q.n 1 fun (i : Nat) => [X32 (q.g i)]) ∧ (↑q.n : Int) = (↑q.n : Int) ∧ (↑x_2.i : Int) + (1 : Int) = (↑x'.i : Int) ∧ (((5 : TypeId) = (5 : TypeId) ∧ true = true ∧ (1 : Nat) = (1 : Nat)) ∧ (fo1 q p_1 x_2.i).o.length = (fo1 q p_1 x'.i).o.length ∧ ∀ (j : Nat), j < (fo1 q p_1 x_2.i).o.length → [X8 ((fo1 q p_1 x_2.i).o.getD j 0)] = [X8 ((fo1 q p_1 x'.i).o.getD j 0)]) ∧ True) ∧ ((q.g (↑x_2.i : Int).toNat != mnr q.g p_1.n q.n) = false → (fo1 q p_1 x_2.i).o.length = (fo1 q p_1 x_2.i).o.length ∧ (∀ (j : Nat), j < (fo1 q p_1 x_2.i).o.length → [X8 ((fo1 q p_1 x_2.i).o.getD j 0)] = [X8 (Option.rec 0 (fun (val : Int) => val) (fo1 q p_1 x_2.i).o[j]?)]) ∧ (0 : Int) ≤ (fo1 q p_1 x_2.i).d + (1 : Int) ∧ (fo1 q p_1 x_2.i).d + (1 : Int) < (1000000000000000000 : Int) ∧ (-1000 : Int) ≤ (fo1 q p_1 x_2.i).b ∧ (fo1 q p_1 x_2.i).b ≤ (1000 : Int) ∧ (fo1 q p_1 x_2.i).o.length ≤ (1000000 : Nat) ∧ in64 ((fo1 q p_1 x_2.i).h + (1 : Int)) ∧ (0 : Int) ≤ (fo1 q p_1 x_2.i).d + (1 : Int) ∧ (fo1 q p_1 x_2.i).d + (1 : Int) ≤ (35000000000000000 : Int) ∧ (1 : Int) ≤ (fo1 q p_1 x_2.i).h + (1 : Int) ∧ in64 ((fo1 q p_1 x_2.i).h + (1 : Int)) ∧ in64 ((↑x_2.i : Int) + (1 : Int)) ∧ ∃ (x' : ({ α := OS, J := enI6 q : InvP }.J p_1).σ), x'.i.le q.n ∧ q.n - x'.i < q.n - x_2.i ∧ true = true ∧ ((XV.fz q.n 1 fun (i : Nat) => [X32 (q.g i)]) = XV.fz q.n 1 fun (i : Nat) => [X32 (q.g i)]) ∧ XV.sl 0 1 0 ((fo1 q p_1 x_2.i).o.length + (num ((fo1 q p_1 x_2.i).d + (1 : Int)) (fo1 q p_1 x_2.i).b).length) = XV.sl 0 1 0 (fo1 q p_1 x'.i).o.length ∧ (fo1 q p_1 x_2.i).h + (1 : Int) = (fo1 q p_1 x'.i).h ∧ (↑(eo0 q.g q.n).length : Int) = (↑(eo0 q.g q.n).length : Int) ∧ mnr q.g p_1.n q.n = mnr q.g p_1.n q.n ∧ (0 : Int) = (fo1 q p_1 x'.i).d ∧ adp ((fo1 q p_1 x_2.i).d + (1 : Int)) ((fo1 q p_1 x_2.i).h + (1 : Int)) ((fo1 q p_1 x_2.i).h == (↑(eo0 q.g q.n).length : Int)) = (fo1 q p_1 x'.i).b ∧ ((XV.fz q.n 1 fun (i : Nat) => [X32 (q.g i)]) = XV.fz q.n 1 fun (i : Nat) => [X32 (q.g i)]) ∧ (↑q.n : Int) = (↑q.n : Int) ∧ (↑x_2.i : Int) + (1 : Int) = (↑x'.i : Int) ∧ (((5 : TypeId) = (5 : TypeId) ∧ true = true ∧ (1 : Nat) = (1 : Nat)) ∧ (fo1 q p_1 x_2.i).o.length + (num ((fo1 q p_1 x_2.i).d + (1 : Int)) (fo1 q p_1 x_2.i).b).length = (fo1 q p_1 x'.i).o.length ∧ ∀ (j : Nat), j < (fo1 q p_1 x_2.i).o.length + (num ((fo1 q p_1 x_2.i).d + (1 : Int)) (fo1 q p_1 x_2.i).b).length → [X8 (nmC (fo1 q p_1 x_2.i).o.length (fun (j : Nat) => Option.rec 0 (fun (val : Int) => val) (fo1 q p_1 x_2.i).o[j]?) (num ((fo1 q p_1 x_2.i).d + (1 : Int)) (fo1 q p_1 x_2.i).b) j)] = [X8 ((fo1 q p_1 x'.i).o.getD j 0)]) ∧ True)) ∧ (decide (q.g (↑x_2.i : Int).toNat < mnr q.g p_1.n q.n) = false → ((q.g (↑x_2.i : Int).toNat != mnr q.g p_1.n q.n) = true → in64 ((↑x_2.i : Int) + (1 : Int)) ∧ ∃ (x' : ({ α := OS, J := enI6 q : InvP }.J p_1).σ), x'.i.le q.n ∧ q.n - x'.i < q.n - x_2.i ∧ true = true ∧ ((XV.fz q.n 1 fun (i : Nat) => [X32 (q.g i)]) = XV.fz q.n 1 fun (i : Nat) => [X32 (q.g i)]) ∧ XV.sl 0 1 0 (fo1 q p_1 x_2.i).o.length = XV.sl 0 1 0 (fo1 q p_1 x'.i).o.length ∧ (fo1 q p_1 x_2.i).h = (fo1 q p_1 x'.i).h ∧ (↑(eo0 q.g q.n).length : Int) = (↑(eo0 q.g q.n).length : Int) ∧ mnr q.g p_1.n q.n = mnr q.g p_1.n q.n ∧ (fo1 q p_1 x_2.i).d = (fo1 q p_1 x'.i).d ∧ (fo1 q p_1 x_2.i).b = (fo1 q p_1 x'.i).b ∧ ((XV.fz q.n 1 fun (i : Nat) => [X32 (q.g i)]) = XV.fz q.n 1 fun (i : Nat) => [X32 (q.g i)]) ∧ (↑q.n : Int) = (↑q.n : Int) ∧ (↑x_2.i : Int) + (1 : Int) = (↑x'.i : Int) ∧ (((5 : TypeId) = (5 : TypeId) ∧ true = true ∧ (1 : Nat) = (1 : Nat)) ∧ (fo1 q p_1 x_2.i).o.length = (fo1 q p_1 x'.i).o.length ∧ ∀ (j : Nat), j < (fo1 q p_1 x_2.i).o.length → [X8 ((fo1 q p_1 x_2.i).o.getD j 0)] = [X8 ((fo1 q p_1 x'.i).o.getD j 0)]) ∧ True) ∧ ((q.g (↑x_2.i : Int).toNat != mnr q.g p_1.n q.n) = false → (fo1 q p_1 x_2.i).o.length = (fo1 q p_1 x_2.i).o.length ∧ (∀ (j : Nat), j < (fo1 q p_1 x_2.i).o.length → [X8 ((fo1 q p_1 x_2.i).o.getD j 0)] = [X8 (Option.rec 0 (fun (val : Int) => val) (fo1 q p_1 x_2.i).o[j]?)]) ∧ (0 : Int) ≤ (fo1 q p_1 x_2.i).d ∧ (fo1 q p_1 x_2.i).d < (1000000000000000000 : Int) ∧ (-1000 : Int) ≤ (fo1 q p_1 x_2.i).b ∧ (fo1 q p_1 x_2.i).b ≤ (1000 : Int) ∧ (fo1 q p_1 x_2.i).o.length ≤ (1000000 : Nat) ∧ in64 ((fo1 q p_1 x_2.i).h + (1 : Int)) ∧ (0 : Int) ≤ (fo1 q p_1 x_2.i).d ∧ (fo1 q p_1 x_2.i).d ≤ (35000000000000000 : Int) ∧ (1 : Int) ≤ (fo1 q p_1 x_2.i).h + (1 : Int) ∧ in64 ((fo1 q p_1 x_2.i).h + (1 : Int)) ∧ in64 ((↑x_2.i : Int) + (1 : Int)) ∧ ∃ (x' : ({ α := OS, J := enI6 q : InvP }.J p_1).σ), x'.i.le q.n ∧ q.n - x'.i < q.n - x_2.i ∧ true = true ∧ ((XV.fz q.n 1 fun (i : Nat) => [X32 (q.g i)]) = XV.fz q.n 1 fun (i : Nat) => [X32 (q.g i)]) ∧ XV.sl 0 1 0 ((fo1 q p_1 x_2.i).o.length + (num (fo1 q p_1 x_2.i).d (fo1 q p_1 x_2.i).b).length) = XV.sl 0 1 0 (fo1 q p_1 x'.i).o.length ∧ (fo1 q p_1 x_2.i).h + (1 : Int) = (fo1 q p_1 x'.i).h ∧ (↑(eo0 q.g q.n).length : Int) = (↑(eo0 q.g q.n).length : Int) ∧ mnr q.g p_1.n q.n = mnr q.g p_1.n q.n ∧ (0 : Int) = (fo1 q p_1 x'.i).d ∧ adp (fo1 q p_1 x_2.i).d ((fo1 q p_1 x_2.i).h + (1 : Int)) ((fo1 q p_1 x_2.i).h == (↑(eo0 q.g q.n).length : Int)) = (fo1 q p_1 x'.i).b ∧ ((XV.fz q.n 1 fun (i : Nat) => [X32 (q.g i)]) = XV.fz q.n 1 fun (i : Nat) => [X32 (q.g i)]) ∧ (↑q.n : Int) = (↑q.n : Int) ∧ (↑x_2.i : Int) + (1 : Int) = (↑x'.i : Int) ∧ (((5 : TypeId) = (5 : TypeId) ∧ true = true ∧ (1 : Nat) = (1 : Nat)) ∧ (fo1 q p_1 x_2.i).o.length + (num (fo1 q p_1 x_2.i).d (fo1 q p_1 x_2.i).b).length = (fo1 q p_1 x'.i).o.length ∧ ∀ (j : Nat), j < (fo1 q p_1 x_2.i).o.length + (num (fo1 q p_1 x_2.i).d (fo1 q p_1 x_2.i).b).length → [X8 (nmC (fo1 q p_1 x_2.i).o.length (fun (j : Nat) => Option.rec 0 (fun (val : Int) => val) (fo1 q p_1 x_2.i).o[j]?) (num (fo1 q p_1 x_2.i).d (fo1 q p_1 x_2.i).b) j)] = [X8 ((fo1 q p_1 x'.i).o.getD j 0)]) ∧ True))) ∧ (decide ((↑x_2.i : Int) < (↑q.n : Int)) = false → in64 ((fo1 q p_1 x_2.i).d + (1 : Int)) ∧ ∃ (x' : (enI2 q).σ), (OK2 q (↑(eo0 q.g q.n).length : Int) x' ∧ encG q.g q.n (↑(eo0 q.g q.n).length : Int) x'.f x'.n x'.s = encR q.g q.n) ∧ x'.f < x.f ∧ true = true ∧ ((XV.fz q.n 1 fun (i : Nat) => [X32 (q.g i)]) = XV.fz q.n 1 fun (i : Nat) => [X32 (q.g i)]) ∧ XV.sl 0 1 0 (fo1 q p_1 x_2.i).o.length = XV.sl 0 1 0 x'.s.o.length ∧ (fo1 q p_1 x_2.i).h = x'.s.h ∧ (↑(eo0 q.g q.n).length : Int) = (↑(eo0 q.g q.n).length : Int) ∧ IntKind.i32.wrap (mnr q.g p_1.n q.n + (1 : Int)) = x'.n ∧ (fo1 q p_1 x_2.i).d + (1 : Int) = x'.s.d ∧ (fo1 q p_1 x_2.i).b = x'.s.b ∧ (((5 : TypeId) = (5 : TypeId) ∧ true = true ∧ (1 : Nat) = (1 : Nat)) ∧ (fo1 q p_1 x_2.i).o.length = x'.s.o.length ∧ ∀ (j : Nat), j < (fo1 q p_1 x_2.i).o.length → [X8 ((fo1 q p_1 x_2.i).o.getD j 0)] = [X8 (x'.s.o.getD j 0)]) ∧ True)))) ∧ (decide (x.s.h < (↑q.n : Int)) = false → (decide ((↑x.s.o.length : Int) > (63 : Int)) = true → ⟨#[]⟩ = txtO (encR q.g q.n).fst ∧ (2 : Int) = (encR q.g q.n).snd ∧ True) ∧ (decide ((↑x.s.o.length : Int) > (63 : Int)) = false → (0 : Nat) + x.s.o.length ≤ x.s.o.length ∧ (∀ (j : Nat), j < x.s.o.length → [X8 (x.s.o.getD ((0 : Nat) + j) 0)] = [X8 (↑{ toBitVec := BitVec.ofNat 8 (x.s.o.getD ((0 : Nat) + j) 0).toNat : UInt8 }.toNat : Int)]) ∧ (txtOf x.s.o.length fun (j : Nat) => { toBitVec := BitVec.ofNat 8 (x.s.o.getD ((0 : Nat) + j) 0).toNat : UInt8 }) = txtO (encR q.g q.n).fst ∧ (0 : Int) = (encR q.g q.n).snd ∧ True)))
theorem encV_eq (q : Sq Int) : encV q = (funC cxe Tryd.f49 (mkSc (enE q) (bodyOf Tryd.f49)) [rnX q] (.tup [XT (txtO (encR q.g q.n).1), XI (encR q.g q.n).2])) := by kernel_rfl
theorem num_ok : ITok Tryd.prog 56 (itS 5 1 numC) := sv_ok cxn_ok Tryd.func56 rfl (by decide) fun n f rest cs m g hC hc => by
 unfold numC at hC
 split at hC
 ·rename_i q b
  simp only [Option.some.injEq, Prod.mk.injEq] at hC
  obtain ⟨rfl, rfl, rfl⟩ := hC
  exact ⟨by kernel_rfl, rfl, fun j => [X8 (int8 (xget (f j) 0))], hc _ (by simp), exvS (numV_eq n (fun j => int8 (xget (f j) 0)) q b) (num_v n _ q b (hc _ (by simp)) (hc _ (by simp)) (hc _ (by simp)) (hc _ (by simp)) (hc _ (by simp)))⟩
 ·cases hC
theorem cxe_ok : cxe.ok Tryd.prog := (cx0_ok.addL num_ok).addC adp_ok
theorem w32 {n : Int} (h0 : -2147483648 ≤ n) (h1 : n ≤ 2147483647) : IntKind.i32.wrap n = n := by
 simp [IntKind.wrap, IntKind.bits, IntKind.signed]; omega
theorem dgt_rng (d : Int) (h0 : 0 ≤ d) (h1 : d < 36) : 48 ≤ dgt d ∧ dgt d < 128 := by
 unfold dgt
 split <;> omega
theorem nmG_rng (b : Int) : ∀ (f : Nat) (q k : Int), 0 ≤ q → ∀ x ∈ nmG b f q k, 48 ≤ x ∧ x < 128
 | 0, q, k, _, x, hx => by simp [nmG] at hx
 | f + 1, q, k, h0, x, hx => by
  have ht := thr_rng k b
  by_cases h : q < thr k b
  ·rw [nmG, if_pos h] at hx
   obtain rfl := List.mem_singleton.1 hx
   exact dgt_rng q h0 (by omega)
  ·rw [nmG_no h] at hx
   rcases List.mem_cons.1 hx with rfl | hx
   ·have r1 : 0 ≤ (q - thr k b) % (36 - thr k b) := Int.emod_nonneg _ (by omega)
    have r2 : (q - thr k b) % (36 - thr k b) < 36 - thr k b := Int.emod_lt_of_pos _ (by omega)
    exact dgt_rng _ (by omega) (by omega)
   ·exact nmG_rng b f _ _ (Int.ediv_nonneg (by omega) (by omega)) x hx
theorem num_rng (q b : Int) (h0 : 0 ≤ q) : ∀ x ∈ num q b, 48 ≤ x ∧ x < 128 := nmG_rng b 19 q 36 h0
theorem mnr_prop (g : Nat → Int) (n : Int) (hn : n ≤ 1114112) : ∀ i, n ≤ mnr g n i ∧ mnr g n i ≤ 1114112 ∧ (∀ j, j < i → g j < n ∨ mnr g n i ≤ g j) ∧ (mnr g n i = 1114112 ∨ ∃ j, j < i ∧ g j = mnr g n i)
 | 0 => ⟨hn, Int.le_refl _, fun j hj => by omega, .inl rfl⟩
 | i + 1 => by
  obtain ⟨h1, h2, h3, h4⟩ := mnr_prop g n hn i
  rw [mnr]
  split
  ·rename_i h
   refine ⟨h.1, by omega, fun j hj => ?_, .inr ⟨i, by omega, rfl⟩⟩
   by_cases e : j = i
   ·subst e; right; omega
   ·rcases h3 j (by omega) with k | k
    ·exact .inl k
    ·right; omega
  ·rename_i h
   refine ⟨h1, h2, fun j hj => ?_, ?_⟩
   ·by_cases e : j = i
    ·subst e
     by_cases k : g j < n
     ·exact .inl k
     ·right; omega
    ·exact h3 j (by omega)
   ·rcases h4 with k | ⟨j, k1, k2⟩
    ·exact .inl k
    ·exact .inr ⟨j, by omega, k2⟩
def ceq (g : Nat → Int) (m : Int) : Nat → Int
 | 0 => 0
 | i + 1 => if g i = m then ceq g m i + 1 else ceq g m i
theorem ceq_rng (g : Nat → Int) (m : Int) : ∀ i : Nat, 0 ≤ ceq g m i ∧ ceq g m i ≤ i
 | 0 => ⟨Int.le_refl _, Int.le_refl _⟩
 | i + 1 => by
  have := ceq_rng g m i
  rw [ceq]
  split <;> omega
theorem ceq_pos (g : Nat → Int) (m : Int) : ∀ i j : Nat, j < i → g j = m → 1 ≤ ceq g m i
 | 0, j, hj, _ => by omega
 | i + 1, j, hj, h => by
  have := ceq_rng g m i
  rw [ceq]
  split
  ·omega
  ·rename_i hne
   refine ceq_pos g m i j ?_ h
   by_cases e : j = i
   ·subst e; exact absurd h hne
   ·omega
theorem clt_rng (g : Nat → Int) (n : Int) : ∀ i : Nat, 0 ≤ clt g n i ∧ clt g n i ≤ i
 | 0 => ⟨Int.le_refl _, Int.le_refl _⟩
 | i + 1 => by
  have := clt_rng g n i
  rw [clt]
  split <;> omega
theorem clt_ex (g : Nat → Int) (n : Int) : ∀ i : Nat, clt g n i < i → ∃ j, j < i ∧ n ≤ g j
 | 0, h => by simp [clt] at h
 | i + 1, h => by
  rw [clt] at h
  split at h
  ·obtain ⟨j, h1, h2⟩ := clt_ex g n i (by omega)
   exact ⟨j, by omega, h2⟩
  ·exact ⟨i, by omega, by omega⟩
theorem clt_round (g : Nat → Int) (n m : Int) (hm : n ≤ m) : ∀ i : Nat, (∀ j, j < i → g j < n ∨ m ≤ g j) → clt g (m + 1) i = clt g n i + ceq g m i
 | 0, _ => rfl
 | i + 1, h => by
  have ih := clt_round g n m hm i fun j hj => h j (by omega)
  have hi := h i (by omega)
  rw [clt, clt, ceq, ih]
  split <;> split <;> split <;> omega
theorem eo0_len (g : Nat → Int) : ∀ i : Nat, ((eo0 g i).length : Int) = clt g 128 i
 | 0 => rfl
 | i + 1 => by
  have := eo0_len g i
  rw [eo0, clt]
  split
  ·rw [List.length_append]; show (((eo0 g i).length + 1 : Nat) : Int) = _; omega
  ·omega
theorem eo0_ok (g : Nat → Int) : ∀ i : Nat, (∀ j, j < i → 0 ≤ g j) → oOK (eo0 g i)
 | 0, _ => fun x hx => by simp [eo0] at hx
 | i + 1, h => by
  have ih := eo0_ok g i fun j hj => h j (by omega)
  rw [eo0]
  split
  ·rename_i h1
   intro x hx
   rcases List.mem_append.1 hx with k | k
   ·exact ih x k
   ·obtain rfl := List.mem_singleton.1 k
    exact ⟨h i (by omega), h1⟩
  ·exact ih
theorem stp_eq (h0 m : Int) (s : ES) (r : Int) (h : r = m) : stp h0 m s r = ⟨s.h + 1, 0, adp s.d (s.h + 1) (s.h == h0), s.o ++ num s.d s.b⟩ := by rw [stp, if_pos h]
theorem stp_lt (h0 m : Int) (s : ES) (r : Int) (h : r < m) : stp h0 m s r = { s with d := s.d + 1 } := by rw [stp, if_neg (by omega), if_pos h]
theorem stp_gt (h0 m : Int) (s : ES) (r : Int) (h : m < r) : stp h0 m s r = s := by rw [stp, if_neg (by omega), if_neg (by omega)]
structure FO (g : Nat → Int) (h0 m : Int) (s : ES) (i : Nat) : Prop where
 h : (fol g h0 m s i).h = s.h + ceq g m i
 d0 : 0 ≤ (fol g h0 m s i).d
 d1 : (fol g h0 m s i).d ≤ s.d + i
 b0 : 0 ≤ (fol g h0 m s i).b
 b1 : (fol g h0 m s i).b ≤ 400
 o : oOK (fol g h0 m s i).o
 l : (fol g h0 m s i).o.length ≤ s.o.length + 19 * i
theorem fol_prop (g : Nat → Int) (h0 m : Int) (s : ES) (hd : 0 ≤ s.d) (hh : 0 ≤ s.h) (hb0 : 0 ≤ s.b) (hb1 : s.b ≤ 400) (ho : oOK s.o) : ∀ i : Nat, s.d + i ≤ 35000000000000000 → FO g h0 m s i
 | 0, _ => ⟨by show s.h = s.h + 0; omega, hd, by show s.d ≤ s.d + 0; omega, hb0, hb1, ho, by show s.o.length ≤ _; omega⟩
 | i + 1, hl => by
  obtain ⟨a1, a2, a3, a4, a5, a6, a7⟩ := fol_prop g h0 m s hd hh hb0 hb1 ho i (by omega)
  have hc := ceq_rng g m i
  have e : fol g h0 m s (i + 1) = stp h0 m (fol g h0 m s i) (g i) := rfl
  rcases Int.lt_trichotomy (g i) m with h | h | h
  ·have e2 : ceq g m (i + 1) = ceq g m i := by rw [ceq, if_neg (by omega)]
   rw [stp_lt _ _ _ _ h] at e
   exact ⟨by rw [e, e2]; exact a1, by rw [e]; show 0 ≤ _ + 1; omega, by rw [e]; show (fol g h0 m s i).d + 1 ≤ _; omega, by rw [e]; exact a4, by rw [e]; exact a5, by rw [e]; exact a6, by rw [e]; show (fol g h0 m s i).o.length ≤ _; omega⟩
  ·have e2 : ceq g m (i + 1) = ceq g m i + 1 := by rw [ceq, if_pos h]
   rw [stp_eq _ _ _ _ h] at e
   have hb := adp_rng (fol g h0 m s i).d ((fol g h0 m s i).h + 1) ((fol g h0 m s i).h == h0) a2 (by omega) (by omega)
   have hn := num_len (fol g h0 m s i).d (fol g h0 m s i).b
   refine ⟨by rw [e, e2]; show (fol g h0 m s i).h + 1 = _; omega, by rw [e]; exact Int.le_refl _, by rw [e]; show (0 : Int) ≤ _; omega, by rw [e]; exact hb.1, by rw [e]; exact hb.2, ?_, ?_⟩
   ·rw [e]
    intro x hx
    rcases List.mem_append.1 hx with k | k
    ·exact a6 x k
    ·have := num_rng _ _ a2 x k
     omega
   ·rw [e]
    show ((fol g h0 m s i).o ++ num (fol g h0 m s i).d (fol g h0 m s i).b).length ≤ _
    rw [List.length_append]; omega
  ·have e2 : ceq g m (i + 1) = ceq g m i := by rw [ceq, if_neg (by omega)]
   rw [stp_gt _ _ _ _ h] at e
   exact ⟨by rw [e, e2]; exact a1, by rw [e]; exact a2, by rw [e]; omega, by rw [e]; exact a4, by rw [e]; exact a5, by rw [e]; exact a6, by rw [e]; omega⟩
theorem o_byte {o : List Int} (h : oOK o) (j : Nat) : ([X8 (o.getD (0 + j) 0)] : List XV) = [X8 ((UInt8.ofNat (o.getD (0 + j) 0).toNat).toNat : Int)] := by
 have : 0 ≤ o.getD (0 + j) 0 ∧ o.getD (0 + j) 0 < 128 := by
  rw [List.getD_eq_getElem?_getD]
  cases hx : o[0 + j]? with
  | none => exact ⟨Int.le_refl _, by decide⟩
  | some x => exact h x (List.mem_of_getElem? hx)
 rw [UInt8.toNat_ofNat']
 congr 4
 omega
theorem row_snoc (o : List Int) (d : Int) (j : Nat) (hj : j < o.length + 1) : ([X8 (bif j.blt o.length then o.getD j 0 else d)] : List XV) = [X8 ((o ++ [d]).getD j 0)] := by
 rw [bltN, List.getD_eq_getElem?_getD, List.getD_eq_getElem?_getD]
 by_cases e : j < o.length
 ·rw [decide_eq_true e, cond_true, List.getElem?_append_left e]
 ·rw [decide_eq_false e, cond_false, show j = o.length by omega]
  simp
theorem getD_rec (o : List Int) (j : Nat) : o.getD j 0 = Option.rec (motive := fun _ => Int) 0 (fun v => v) o[j]? := by
 rw [List.getD_eq_getElem?_getD]
 cases o[j]? <;> rfl
theorem nmC_rec (o c : List Int) (j : Nat) : nmC o.length (fun j => Option.rec (motive := fun _ => Int) 0 (fun v => v) o[j]?) c j = nmC o.length (fun j => o.getD j 0) c j := by
 congr 1
 funext j
 exact (getD_rec o j).symm
theorem nmC_app (o c : List Int) (j : Nat) : nmC o.length (fun j => o.getD j 0) c j = (o ++ c).getD j 0 := by
 unfold nmC
 dsimp only
 rw [List.getD_eq_getElem?_getD, List.getD_eq_getElem?_getD, List.getD_eq_getElem?_getD]
 split
 ·rename_i h; rw [List.getElem?_append_left h]
 ·rename_i h; rw [List.getElem?_append_right (by omega)]
theorem encG_stop {g : Nat → Int} {len : Nat} {h0 : Int} {f : Nat} {n : Int} {s : ES} (h : s.o.length > 63) : encG g len h0 f n s = ([], 2) := by
 cases f with
 | zero => rw [encG, if_pos h]
 | succ f => rw [encG, if_pos h]
theorem encG_end {g : Nat → Int} {len : Nat} {h0 : Int} {f : Nat} {n : Int} {s : ES} (h : ¬ s.o.length > 63) (h2 : ¬ s.h < len) : encG g len h0 f n s = (s.o, 0) := by
 cases f with
 | zero => rw [encG, if_neg h]
 | succ f => rw [encG, if_neg h, if_neg h2]
theorem encG_go {g : Nat → Int} {len : Nat} {h0 : Int} {f : Nat} {n : Int} {s : ES} (h : ¬ s.o.length > 63) (h2 : s.h < len) : encG g len h0 (f + 1) n s = encG g len h0 f (mnr g n len + 1) { rnd g len h0 n s with d := (rnd g len h0 n s).d + 1 } := by
 rw [encG, if_neg h, if_pos h2]
theorem eo1_len (g : Nat → Int) (n : Nat) : (eo1 g n).length ≤ (eo0 g n).length + 1 := by
 unfold eo1
 split
 ·simp
 ·omega
theorem eo1_ok (g : Nat → Int) (n : Nat) (h : oOK (eo0 g n)) : oOK (eo1 g n) := by
 unfold eo1
 split
 ·intro x hx
  rcases List.mem_append.1 hx with k | k
  ·exact h x k
  ·obtain rfl := List.mem_singleton.1 k
   exact ⟨by decide, by decide⟩
 ·exact h
theorem enc_v (q : Sq Int) (hn : q.n ≤ 2000) (hg : ∀ i, i < q.n → 0 ≤ q.g i ∧ q.g i ≤ 1114111) : encV q := by
 have hE0 : ∀ i, i ≤ q.n → (eo0 q.g i).length ≤ i := fun i hi => by
  have h1 := eo0_len q.g i
  have h2 := clt_rng q.g 128 i
  omega
 unfold encV
 refine ⟨⟨⟨0⟩, Nat.zero_le _, rfl, rfl, rfl, rfl, rfl, rfl, ⟨⟨rfl, rfl, rfl⟩, rfl, fun j hj => by omega⟩, trivial⟩, ?_⟩
 rintro ⟨i⟩ hi
 have hi : i ≤ q.n := hi
 refine ⟨fun h => ?_, fun h => ?_⟩
 ·have h : (i : Int) < q.n := of_decide_eq_true h
  have hil := hE0 i hi
  obtain ⟨g0, g1⟩ := hg i (by omega)
  dsimp only
  refine ⟨by omega, h, fun h1 => ?_, fun h1 => ?_⟩
  ·have h1 : q.g i < 128 := of_decide_eq_true h1
   have e : eo0 q.g (i + 1) = eo0 q.g i ++ [q.g i] := by rw [eo0, if_pos h1]
   have el : (eo0 q.g (i + 1)).length = (eo0 q.g i).length + 1 := by rw [e, List.length_append]; rfl
   refine ⟨rfl, by omega, by omega, by unfold in64; omega, ⟨i + 1⟩, by show i + 1 ≤ q.n; omega, by show q.n - (i + 1) < q.n - i; omega, rfl, rfl, by rw [el], rfl, rfl, rfl, ⟨⟨rfl, rfl, rfl⟩, by rw [el], fun j hj => ?_⟩, trivial⟩
   rw [e, show IntKind.u8.wrap (q.g (i : Int).toNat) = q.g i from wrap8_in g0 (show q.g i ≤ 255 by omega)]
   exact row_snoc _ _ j hj
  ·have h1 : ¬ q.g i < 128 := of_decide_eq_false h1
   have e : eo0 q.g (i + 1) = eo0 q.g i := by rw [eo0, if_neg h1]
   exact ⟨by unfold in64; omega, ⟨i + 1⟩, by show i + 1 ≤ q.n; omega, by show q.n - (i + 1) < q.n - i; omega, rfl, rfl, by rw [e], rfl, rfl, rfl, ⟨⟨rfl, rfl, rfl⟩, by rw [e], fun j hj => by rw [e]⟩, trivial⟩
 have h : ¬ (i : Int) < q.n := of_decide_eq_false h
 obtain rfl : i = q.n := by omega
 have hl0 := hE0 q.n (Nat.le_refl _)
 dsimp only
 refine ⟨⟨fun h1 => ?_, fun h1 => ?_⟩, fun _ _ => ?_⟩
 ·have h1 : ((eo0 q.g q.n).length : Int) > 0 := of_decide_eq_true h1
  have e : eo1 q.g q.n = eo0 q.g q.n ++ [45] := by rw [eo1, if_pos (by omega)]
  have el : (eo1 q.g q.n).length = (eo0 q.g q.n).length + 1 := by rw [e, List.length_append]; rfl
  refine ⟨rfl, by omega, by omega, ⟨0⟩, trivial, rfl, rfl, by rw [el], rfl, rfl, ⟨⟨rfl, rfl, rfl⟩, by rw [el], fun j hj => ?_⟩, trivial⟩
  rw [e]
  exact row_snoc _ _ j hj
 ·have h1 : ¬ ((eo0 q.g q.n).length : Int) > 0 := of_decide_eq_false h1
  have e : eo1 q.g q.n = eo0 q.g q.n := by rw [eo1, if_neg (by omega)]
  exact ⟨⟨0⟩, trivial, rfl, rfl, by rw [e], rfl, rfl, ⟨⟨rfl, rfl, rfl⟩, by rw [e], fun j hj => by rw [e]⟩, trivial⟩
 have hok0 := eo0_ok q.g q.n fun j hj => (hg j hj).1
 have hcl := eo0_len q.g q.n
 have hcr := clt_rng q.g 128 q.n
 have hl1 := eo1_len q.g q.n
 refine ⟨⟨⟨128, ⟨(eo0 q.g q.n).length, 0, 72, eo1 q.g q.n⟩, q.n⟩, ⟨⟨⟨Int.le_refl _, by show (128 : Int) ≤ 1114112; decide⟩, by show ((eo0 q.g q.n).length : Int) = _; omega, ⟨by omega, Int.le_refl _⟩, ⟨Int.le_refl _, by show (0 : Int) ≤ ((q.n : Int) - (q.n : Int)) * 2300000000; omega⟩, ⟨by show (0 : Int) ≤ 72; decide, by show (72 : Int) ≤ 400; decide⟩, eo1_ok _ _ hok0, by show (eo1 q.g q.n).length ≤ 50000; omega, ⟨by show (q.n : Int) - ((eo0 q.g q.n).length : Int) ≤ q.n; omega, Nat.le_refl _⟩⟩, rfl⟩, rfl, rfl, rfl, rfl, rfl, rfl, rfl, rfl, ⟨⟨rfl, rfl, rfl⟩, rfl, fun j hj => rfl⟩, trivial⟩, ?_⟩
 rintro ⟨n, s, f⟩ ⟨hK, hG⟩
 obtain ⟨⟨n0, n1⟩, kh, ⟨h00, h01⟩, ⟨d0, d1⟩, ⟨b0, b1⟩, ko, kl, ⟨f0, f1⟩⟩ := hK
 dsimp only at n0 n1 kh h00 h01 d0 d1 b0 b1 ko kl f0 f1 hG
 have hcn := clt_rng q.g n q.n
 dsimp only
 refine ⟨fun h2' => ?_, fun h2 => ?_⟩
 ·have h2 : s.h < q.n := of_decide_eq_true h2'
  refine ⟨fun h3 => ?_, fun h3 => ?_⟩
  ·have h3 : (s.o.length : Int) > 63 := of_decide_eq_true h3
   rw [encG_stop (by omega)] at hG
   rw [← hG]
   exact ⟨rfl, rfl, trivial⟩
  have h3 : ¬ s.o.length > 63 := by have := of_decide_eq_false h3; omega
  refine ⟨⟨n, s, f⟩, ⟨⟨0⟩, Nat.zero_le _, rfl, rfl, rfl, rfl, rfl, rfl, rfl, rfl, rfl, rfl, rfl, rfl, ⟨⟨rfl, rfl, rfl⟩, rfl, fun j hj => rfl⟩, trivial⟩, ?_⟩
  rintro ⟨i⟩ hi
  have hi : i ≤ q.n := hi
  dsimp only
  refine ⟨fun h => ?_, fun h => ?_⟩
  ·have h : (i : Int) < q.n := of_decide_eq_true h
   refine ⟨by omega, h, fun h1 => ?_, fun h1 => ?_⟩
   ·simp only [Bool.and_eq_true, decide_eq_true_eq, Int.toNat_natCast] at h1
    have e : mnr q.g n (i + 1) = q.g i := by rw [mnr, if_pos ⟨h1.1, h1.2⟩]
    exact ⟨by unfold in64; omega, ⟨i + 1⟩, by show i + 1 ≤ q.n; omega, by show q.n - (i + 1) < q.n - i; omega, rfl, rfl, rfl, rfl, rfl, rfl, rfl, rfl, by show q.g (i : Int).toNat = mnr q.g n (i + 1); rw [e]; rfl, rfl, rfl, rfl, ⟨⟨rfl, rfl, rfl⟩, rfl, fun j hj => rfl⟩, trivial⟩
   ·have e : mnr q.g n (i + 1) = mnr q.g n i := by
     rw [mnr, if_neg]
     intro hx
     simp only [Bool.and_eq_false_iff, decide_eq_false_iff_not, Int.toNat_natCast] at h1
     omega
    exact ⟨by unfold in64; omega, ⟨i + 1⟩, by show i + 1 ≤ q.n; omega, by show q.n - (i + 1) < q.n - i; omega, rfl, rfl, rfl, rfl, rfl, rfl, rfl, rfl, by show mnr q.g n i = mnr q.g n (i + 1); rw [e], rfl, rfl, rfl, ⟨⟨rfl, rfl, rfl⟩, rfl, fun j hj => rfl⟩, trivial⟩
  have h : ¬ (i : Int) < q.n := of_decide_eq_false h
  obtain rfl : i = q.n := by omega
  obtain ⟨m0, m1, m2, m3⟩ := mnr_prop q.g n n1 q.n
  obtain ⟨jx, hj1, hj2⟩ := clt_ex q.g n q.n (by omega)
  have hmn : mnr q.g n q.n ≤ q.g jx := by
   rcases m2 jx hj1 with k | k
   ·omega
   ·exact k
  have hgx := (hg jx hj1).2
  obtain ⟨jm, hm1, hm2⟩ : ∃ j, j < q.n ∧ q.g j = mnr q.g n q.n := by
   rcases m3 with k | k
   ·omega
   ·exact k
  have hce := ceq_pos q.g (mnr q.g n q.n) q.n jm hm1 hm2
  have hcr := clt_round q.g n (mnr q.g n q.n) m0 q.n m2
  have hceq := ceq_rng q.g (mnr q.g n q.n) q.n
  have hcm := clt_rng q.g (mnr q.g n q.n + 1) q.n
  rw [w32 (by omega) (by omega)]
  have hp0 : 0 ≤ (mnr q.g n q.n - n) * (s.h + 1) := Int.mul_nonneg (by omega) (by omega)
  have hp1 : (mnr q.g n q.n - n) * (s.h + 1) ≤ 1114112 * 2001 := Int.mul_le_mul (by omega) (by omega) (by omega) (by decide)
  have hfn : ((q.n : Int) - f) * 2300000000 ≤ 2000 * 2300000000 := Int.mul_le_mul (by omega) (Int.le_refl _) (by decide) (by decide)
  have hF : ∀ i, i ≤ q.n → FO q.g (eo0 q.g q.n).length (mnr q.g n q.n) { s with d := s.d + (mnr q.g n q.n - n) * (s.h + 1) } i := fun i hi =>
   fol_prop q.g (eo0 q.g q.n).length (mnr q.g n q.n) { s with d := s.d + (mnr q.g n q.n - n) * (s.h + 1) } (by show 0 ≤ s.d + _; omega) (by show 0 ≤ s.h; omega) b0 b1 ko i (by show s.d + _ + _ ≤ _; omega)
  refine ⟨by unfold in64; omega, by unfold in64; omega, by unfold in64; omega, by unfold in64; omega, ⟨n, s, f⟩, ⟨⟨0⟩, Nat.zero_le _, rfl, rfl, rfl, rfl, rfl, rfl, rfl, rfl, rfl, rfl, rfl, ⟨⟨rfl, rfl, rfl⟩, rfl, fun j hj => rfl⟩, trivial⟩, ?_⟩
  rintro ⟨i⟩ hi
  have hi : i ≤ q.n := hi
  have hFi := hF i hi
  have efo : fol q.g (eo0 q.g q.n).length (mnr q.g n q.n) { s with d := s.d + (mnr q.g n q.n - n) * (s.h + 1) } i = fo1 q ⟨n, s, f⟩ i := rfl
  obtain ⟨p1, p2, p3, p4, p5, p6, p7⟩ := hFi
  rw [efo] at p1 p2 p3 p4 p5 p6 p7
  dsimp only at p1 p3 p7
  have hci := ceq_rng q.g (mnr q.g n q.n) i
  have est : fo1 q ⟨n, s, f⟩ (i + 1) = stp (eo0 q.g q.n).length (mnr q.g n q.n) (fo1 q ⟨n, s, f⟩ i) (q.g i) := rfl
  dsimp only
  refine ⟨fun h => ?_, fun h => ?_⟩
  ·have h : (i : Int) < q.n := of_decide_eq_true h
   refine ⟨by omega, h, fun h1 => ?_, fun h1 => ?_⟩
   ·have h1 : q.g i < mnr q.g n q.n := of_decide_eq_true h1
    rw [stp_lt _ _ _ _ h1] at est
    refine ⟨by unfold in64; omega, fun h4 => ?_, fun h4 => ?_⟩
    ·exact ⟨by unfold in64; omega, ⟨i + 1⟩, by show i + 1 ≤ q.n; omega, by show q.n - (i + 1) < q.n - i; omega, rfl, rfl, by rw [est], by rw [est], rfl, rfl, by rw [est], by rw [est], rfl, rfl, rfl, ⟨⟨rfl, rfl, rfl⟩, by rw [est], fun j hj => by rw [est]⟩, trivial⟩
    ·have h4 : q.g i = mnr q.g n q.n := by simpa using h4
     omega
   ·have h1 : ¬ q.g i < mnr q.g n q.n := of_decide_eq_false h1
    refine ⟨fun h4 => ?_, fun h4 => ?_⟩
    ·have h4 : q.g i ≠ mnr q.g n q.n := by simpa using h4
     rw [stp_gt _ _ _ _ (by omega)] at est
     exact ⟨by unfold in64; omega, ⟨i + 1⟩, by show i + 1 ≤ q.n; omega, by show q.n - (i + 1) < q.n - i; omega, rfl, rfl, by rw [est], by rw [est], rfl, rfl, by rw [est], by rw [est], rfl, rfl, rfl, ⟨⟨rfl, rfl, rfl⟩, by rw [est], fun j hj => by rw [est]⟩, trivial⟩
    ·have h4 : q.g i = mnr q.g n q.n := by simpa using h4
     rw [stp_eq _ _ _ _ h4] at est
     refine ⟨rfl, fun j hj => congrArg (fun z => [X8 z]) (getD_rec _ j), p2, by omega, by omega, by omega, by omega, by unfold in64; omega, p2, by omega, by omega, by unfold in64; omega, by unfold in64; omega, ⟨i + 1⟩, by show i + 1 ≤ q.n; omega, by show q.n - (i + 1) < q.n - i; omega, rfl, rfl, by rw [est, List.length_append], by rw [est], rfl, rfl, by rw [est], by rw [est], rfl, rfl, rfl, ⟨⟨rfl, rfl, rfl⟩, by rw [est, List.length_append], fun j hj => ?_⟩, trivial⟩
     rw [est]
     exact congrArg (fun z => [X8 z]) ((nmC_rec _ _ j).trans (nmC_app _ _ j))
  ·have h : ¬ (i : Int) < q.n := of_decide_eq_false h
   obtain rfl : i = q.n := by omega
   have ernd : rnd q.g q.n (eo0 q.g q.n).length n s = fo1 q ⟨n, s, f⟩ q.n := rfl
   cases f with
   | zero => omega
   | succ f =>
    rw [encG_go (by assumption) h2, ernd] at hG
    rw [w32 (by omega) (by omega)]
    refine ⟨by unfold in64; omega, ⟨mnr q.g n q.n + 1, { fo1 q ⟨n, s, f + 1⟩ q.n with d := (fo1 q ⟨n, s, f + 1⟩ q.n).d + 1 }, f⟩, ⟨⟨⟨?_, ?_⟩, ?_, ⟨?_, ?_⟩, ⟨?_, ?_⟩, ⟨p4, p5⟩, p6, ?_, ⟨?_, ?_⟩⟩, hG⟩, by show f < f + 1; omega, rfl, rfl, rfl, rfl, rfl, rfl, rfl, rfl, ⟨⟨rfl, rfl, rfl⟩, rfl, fun j hj => rfl⟩, trivial⟩
    ·show 128 ≤ _ + 1; omega
    ·show mnr q.g n q.n + 1 ≤ 1114112; omega
    ·show (fo1 q ⟨n, s, f + 1⟩ q.n).h = clt q.g (mnr q.g n q.n + 1) q.n; omega
    ·omega
    ·show _ ≤ (fo1 q ⟨n, s, f + 1⟩ q.n).h; omega
    ·show 0 ≤ (fo1 q ⟨n, s, f + 1⟩ q.n).d + 1; omega
    ·show (fo1 q ⟨n, s, f + 1⟩ q.n).d + 1 ≤ ((q.n : Int) - (f : Int)) * 2300000000; omega
    ·show (fo1 q ⟨n, s, f + 1⟩ q.n).o.length ≤ 50000; omega
    ·show (q.n : Int) - (fo1 q ⟨n, s, f + 1⟩ q.n).h ≤ (f : Int); omega
    ·show f ≤ q.n; omega
 ·have h2 : ¬ s.h < q.n := of_decide_eq_false h2
  refine ⟨fun h3 => ?_, fun h3 => ?_⟩
  ·have h3 : (s.o.length : Int) > 63 := of_decide_eq_true h3
   rw [encG_stop (by omega)] at hG
   rw [← hG]
   exact ⟨rfl, rfl, trivial⟩
  ·have h3 : ¬ (s.o.length : Int) > 63 := of_decide_eq_false h3
   rw [encG_end (by omega) h2] at hG
   rw [← hG]
   exact ⟨by omega, fun j hj => o_byte ko j, rfl, rfl, trivial⟩
def dRn : Dc (Sq Int) := dSl 1 (fun l => rune1 (xget l 0)) (fun i => [X32 i]) 0
def encC : CT := C1 dRn (fun q => [q.n ≤ 2000, ∀ i, i < q.n → 0 ≤ q.g i ∧ q.g i ≤ 1114111]) fun q => .tup [XT (txtO (encR q.g q.n).1), XI (encR q.g q.n).2]
theorem enc_ok : CTok Tryd.prog 49 encC := C1_ok cxe_ok Tryd.func49 rfl (by decide) dSl_ok (by kernel_rfl) (fun _ => rfl) fun q hc => exv (encV_eq q) (enc_v q (hc _ (by simp)) (hc _ (by simp)))
end Go.Proofs.YtaglpckihegmoaaDoorAv
namespace Go.Proofs.YtaglpckihegmoaaDoorAv
open Go Go.RowKit
def dnG (b : Int) : List UInt8 → Int → Int → Int → Option (List UInt8 × Int)
 | [], _, _, _ => none
 | c :: l, i, w, k => if vlu c.toNat = 36 ∨ i > 71303104 ∨ w > 71303104 then none else if vlu c.toNat < thr k b then some (l, i + vlu c.toNat * w) else dnG b l (i + vlu c.toNat * w) (w * (36 - thr k b)) (k + 36)
def badR (n : Int) : Prop := n > 1114111 ∨ (55296 ≤ n ∧ n ≤ 57343)
instance (n : Int) : Decidable (badR n) := inferInstanceAs (Decidable (_ ∨ _))
def dcG : Nat → List UInt8 → Int → Int → Int → List Int → Option (List Int)
 | _, [], _, _, _, o => some o
 | 0, _ :: _, _, _, _, _ => none
 | f + 1, c :: l, n, i, b, o => match dnG b (c :: l) i 1 36 with
  | none => none
  | some (l', j) => if badR (n + j / (o.length + 1)) then none else dcG f l' (n + j / (o.length + 1)) (j % (o.length + 1) + 1) (adp (j - i) (o.length + 1) (i == 0)) (o.take (j % (o.length + 1)).toNat ++ (n + j / (o.length + 1)) :: o.drop (j % (o.length + 1)).toNat)
def dcN (f : Nat) (n i : Int) (o : List Int) : Option (List UInt8 × Int) → Option (List Int)
 | none => none
 | some (l', j) => if badR (n + j / (o.length + 1)) then none else dcG f l' (n + j / (o.length + 1)) (j % (o.length + 1) + 1) (adp (j - i) (o.length + 1) (i == 0)) (o.take (j % (o.length + 1)).toNat ++ (n + j / (o.length + 1)) :: o.drop (j % (o.length + 1)).toNat)
theorem dcG_cons (f : Nat) (c : UInt8) (l : List UInt8) (n i b : Int) (o : List Int) : dcG (f + 1) (c :: l) n i b o = dcN f n i o (dnG b (c :: l) i 1 36) := by
 rw [dcG]
 cases dnG b (c :: l) i 1 36 <;> rfl
def decK (s : ByteArray) : Option (List Int) → List Int × Int
 | none => ([], 3)
 | some o => if (encR (fun j => o.getD j 0) o.length).2 ≠ 0 ∨ eqfB (txtO (encR (fun j => o.getD j 0) o.length).1) s = false then ([], 3) else (o, 0)
def lst (s : ByteArray) (p : Nat) : List UInt8 := s.data.toList.drop p
def preL (s : ByteArray) (m : Nat) : List Int := (s.data.toList.take m).map fun c => (c.toNat : Int)
def decR (s : ByteArray) : List Int × Int :=
 if s.size > 63 then ([], 3)
 else if ∃ j, j < (imax (lastB s 45) 0).toNat ∧ sbyte s (j : Nat) ≥ 128 then ([], 3)
 else decK s (dcG (s.size + 1) (lst s (lastB s 45 + 1).toNat) 128 0 72 (preL s (imax (lastB s 45) 0).toNat))
def rsT (s : ByteArray) (p : Nat) : ByteArray := s.extract p s.size
def cxd : Cx := { cx0 with C := [(49, encC), (65, vluC), (66, thrC), (57, adpC), (64, lastC), (67, eqfC)], K := true }
structure DS where
 p : Nat
 n : Int
 i : Int
 b : Int
 o : List Int
 f : Nat
structure DQ where
 p : Nat
 i : Int
 w : Int
 k : Int
def rowR (o : List Int) : XRow := .vec 21 true o.length 1 fun j => [X32 (o.getD j 0)]
def asc (s : ByteArray) (p : Nat) : Prop := ∀ j : Nat, j < p → sbyte s j < 128
def deI0 (s : ByteArray) : Inv where
 σ := IL
 S := fun x => ⟨[(0, XT s), (4, .sl 0 1 0 x.i), (5, XI (lastB s 45)), (25, XI (imax (lastB s 45) 0)), (26, XI x.i)], [(0, .vec 21 true x.i 1 fun j => [X32 (sbyte s j)])], 1, false, []⟩
 inv := fun x => (x.i : Int) ≤ imax (lastB s 45) 0 ∧ asc s x.i
 μ := fun x => s.size - x.i
structure DOK (s : ByteArray) (x : DS) : Prop where
 p : x.p ≤ s.size
 f : s.size < x.p + x.f
 l : x.o.length ≤ x.p
 i : 0 ≤ x.i ∧ x.i ≤ x.o.length
 n : 128 ≤ x.n ∧ x.n ≤ 1114111
 b : 0 ≤ x.b ∧ x.b ≤ 400
 a : asc s x.p
 o : ∀ y ∈ x.o, 0 ≤ y ∧ y ≤ 1114111
def deI2 (s : ByteArray) : Inv where
 σ := DS
 S := fun x => ⟨[(0, XT s), (4, .sl 0 1 0 x.o.length), (7, XI x.n), (8, XI x.i), (9, XI x.b), (10, XT (rsT s x.p))], [(0, rowR x.o)], 1, false, []⟩
 inv := fun x => DOK s x ∧ decK s (dcG x.f (lst s x.p) x.n x.i x.b x.o) = decR s
 μ := fun x => s.size - x.p
structure TOK (s : ByteArray) (y : DS) (x : DQ) : Prop where
 p : y.p ≤ x.p ∧ x.p ≤ s.size
 i : y.i ≤ x.i ∧ x.i ≤ 2566911744
 w : 1 ≤ x.w ∧ x.w ≤ 2495608640
 k : 36 ≤ x.k ∧ x.k + 36 * y.p ≤ 36 + 36 * x.p
 a : asc s x.p
def deI4 (s : ByteArray) (y : DS) : Inv where
 σ := DQ
 S := fun x => ⟨[(0, XT s), (4, .sl 0 1 0 y.o.length), (7, XI y.n), (8, XI x.i), (9, XI y.b), (10, XT (rsT s x.p)), (11, XI y.i), (12, XI x.w), (13, XI x.k)], [(0, rowR y.o)], 1, false, []⟩
 inv := fun x => TOK s y x ∧ decK s (dcN (y.f - 1) y.n y.i y.o (dnG y.b (lst s x.p) x.i x.w x.k)) = decR s
 μ := fun x => s.size - x.p
def deE (s : ByteArray) : Env := { loops := [(0, deI0 s), (2, deI2 s)], loopsP := [(4, ⟨DS, deI4 s⟩)], own := [(4, [(4, 21, 1)])], frz := [(37, [4])] }
def fzL (o : List Int) : XV := .fz o.length 1 fun j => [X32 (o.getD j 0)]
def decV (s : ByteArray) : Prop :=
 (decide ((↑s.size : Int) > (63 : Int)) = true → (decR s).fst.length = (0 : Nat) ∧ (3 : Int) = (decR s).snd ∧ True) ∧ (decide ((↑s.size : Int) > (63 : Int)) = false → s.size ≤ (1000000 : Nat) ∧ (∃ (x : (deI0 s).σ), ((↑x.i : Int) ≤ imax (lastB s 45) 0 ∧ asc s x.i) ∧ true = true ∧ s = s ∧ XV.sl 0 1 0 0 = XV.sl 0 1 0 x.i ∧ lastB s 45 = lastB s 45 ∧ imax (lastB s 45) 0 = imax (lastB s 45) 0 ∧ (0 : Int) = (↑x.i : Int) ∧ (((21 : Nat) = (21 : TypeId) ∧ true = true ∧ (1 : Nat) = (1 : Nat)) ∧ (0 : Nat) = x.i ∧ ∀ (j : Nat), j < (0 : Nat) → [] = [X32 (sbyte s (↑j : Int))]) ∧ True) ∧ ∀ (x : IL), (↑x.i : Int) ≤ imax (lastB s 45) 0 ∧ asc s x.i → (decide ((↑x.i : Int) < imax (lastB s 45) 0) = true → (0 : Int) ≤ (↑x.i : Int) ∧ (↑x.i : Int) < (↑s.size : Int) ∧ (decide (sbyte s (↑x.i : Int) ≥ (128 : Int)) = true → (decR s).fst.length = (0 : Nat) ∧ (3 : Int) = (decR s).snd ∧ True) ∧ (decide (sbyte s (↑x.i : Int) ≥ (128 : Int)) = false → (0 : Int) ≤ (↑x.i : Int) ∧ (↑x.i : Int) < (↑s.size : Int) ∧ x.i.le x.i ∧ (x.i + (1 : Nat)) * (4 : Nat) ≤ (140737488355328 : Nat) ∧ x.i + (1 : Nat) ≤ (140737488355328 : Nat) ∧ in64 ((↑x.i : Int) + (1 : Int)) ∧ ∃ (x' : (deI0 s).σ), ((↑x'.i : Int) ≤ imax (lastB s 45) 0 ∧ asc s x'.i) ∧ s.size - x'.i < s.size - x.i ∧ true = true ∧ s = s ∧ XV.sl 0 1 0 (x.i + (1 : Nat)) = XV.sl 0 1 0 x'.i ∧ lastB s 45 = lastB s 45 ∧ imax (lastB s 45) 0 = imax (lastB s 45) 0 ∧ (↑x.i : Int) + (1 : Int) = (↑x'.i : Int) ∧ (((21 : TypeId) = (21 : TypeId) ∧ true = true ∧ (1 : Nat) = (1 : Nat)) ∧ x.i + (1 : Nat) = x'.i ∧ ∀ (j : Nat), j < x.i + (1 : Nat) → [Bool.rec (X32 (IntKind.i32.wrap (sbyte s (↑x.i : Int)))) (X32 (sbyte s (↑j : Int))) (j.blt x.i)] = [X32 (sbyte s (↑j : Int))]) ∧ True)) ∧ (decide ((↑x.i : Int) < imax (lastB s 45) 0) = false → in64 (lastB s 45 + (1 : Int)) ∧ (0 : Int) ≤ lastB s 45 + (1 : Int) ∧ lastB s 45 + (1 : Int) ≤ (↑s.size : Int) ∧ (↑s.size : Int) ≤ (↑s.size : Int) ∧ (∃ (x_1 : (deI2 s).σ), (DOK s x_1 ∧ decK s (dcG x_1.f (lst s x_1.p) x_1.n x_1.i x_1.b x_1.o) = decR s) ∧ true = true ∧ s = s ∧ XV.sl 0 1 0 x.i = XV.sl 0 1 0 x_1.o.length ∧ (128 : Int) = x_1.n ∧ (0 : Int) = x_1.i ∧ (72 : Int) = x_1.b ∧ s.extract (lastB s 45 + (1 : Int)).toNat (↑s.size : Int).toNat = rsT s x_1.p ∧ (((21 : TypeId) = (21 : TypeId) ∧ true = true ∧ (1 : Nat) = (1 : Nat)) ∧ x.i = x_1.o.length ∧ ∀ (j : Nat), j < x.i → [X32 (sbyte s (↑j : Int))] = [X32 (x_1.o.getD j 0)]) ∧ True) ∧ ∀ (x : DS), DOK s x ∧ decK s (dcG x.f (lst s x.p) x.n x.i x.b x.o) = decR s → ((!decide (rsT s x.p = ⟨#[]⟩)) = true → ∃ (p : { α := DS, J := deI4 s : InvP }.α), (∃ (x_1 : ({ α := DS, J := deI4 s : InvP }.J p).σ), (TOK s p x_1 ∧ decK s (dcN (p.f - (1 : Nat)) p.n p.i p.o (dnG p.b (lst s x_1.p) x_1.i x_1.w x_1.k)) = decR s) ∧ true = true ∧ s = s ∧ XV.sl 0 1 0 x.o.length = XV.sl 0 1 0 p.o.length ∧ x.n = p.n ∧ x.i = x_1.i ∧ x.b = p.b ∧ rsT s x.p = rsT s x_1.p ∧ x.i = p.i ∧ (1 : Int) = x_1.w ∧ (36 : Int) = x_1.k ∧ (((21 : TypeId) = (21 : TypeId) ∧ true = true ∧ (1 : Nat) = (1 : Nat)) ∧ x.o.length = p.o.length ∧ ∀ (j : Nat), j < x.o.length → [X32 (x.o.getD j 0)] = [X32 (p.o.getD j 0)]) ∧ True) ∧ ∀ (x_1 : DQ), TOK s p x_1 ∧ decK s (dcN (p.f - (1 : Nat)) p.n p.i p.o (dnG p.b (lst s x_1.p) x_1.i x_1.w x_1.k)) = decR s → (decide (rsT s x_1.p = ⟨#[]⟩) = true → (decR s).fst.length = (0 : Nat) ∧ (3 : Int) = (decR s).snd ∧ True) ∧ (decide (rsT s x_1.p = ⟨#[]⟩) = false → (0 : Int) ≤ (0 : Int) ∧ (0 : Int) < (↑(rsT s x_1.p).size : Int) ∧ (0 : Int) ≤ (1 : Int) ∧ (1 : Int) ≤ (↑(rsT s x_1.p).size : Int) ∧ (↑(rsT s x_1.p).size : Int) ≤ (↑(rsT s x_1.p).size : Int) ∧ ((vlu (sbyte (rsT s x_1.p) 0) == (36 : Int) || decide (x_1.i > (71303104 : Int)) || decide (x_1.w > (71303104 : Int))) = true → (decR s).fst.length = (0 : Nat) ∧ (3 : Int) = (decR s).snd ∧ True) ∧ ((vlu (sbyte (rsT s x_1.p) 0) == (36 : Int) || decide (x_1.i > (71303104 : Int)) || decide (x_1.w > (71303104 : Int))) = false → in64 (vlu (sbyte (rsT s x_1.p) 0) * x_1.w) ∧ in64 (x_1.i + vlu (sbyte (rsT s x_1.p) 0) * x_1.w) ∧ in64 (x_1.k - p.b) ∧ (decide (vlu (sbyte (rsT s x_1.p) 0) < thr x_1.k p.b) = true → in64 ((↑p.o.length : Int) + (1 : Int)) ∧ in64 (x_1.i + vlu (sbyte (rsT s x_1.p) 0) * x_1.w - p.i) ∧ (0 : Int) ≤ x_1.i + vlu (sbyte (rsT s x_1.p) 0) * x_1.w - p.i ∧ x_1.i + vlu (sbyte (rsT s x_1.p) 0) * x_1.w - p.i ≤ (35000000000000000 : Int) ∧ (1 : Int) ≤ (↑p.o.length : Int) + (1 : Int) ∧ (↑p.o.length : Int) + (1 : Int) ≠ (0 : Int) ∧ in64 (p.n + IntKind.i64.wrap ((x_1.i + vlu (sbyte (rsT s x_1.p) 0) * x_1.w).tdiv ((↑p.o.length : Int) + (1 : Int)))) ∧ (↑p.o.length : Int) + (1 : Int) ≠ (0 : Int) ∧ ((!decide (p.n + IntKind.i64.wrap ((x_1.i + vlu (sbyte (rsT s x_1.p) 0) * x_1.w).tdiv ((↑p.o.length : Int) + (1 : Int))) > (1114111 : Int))) = true → (!decide (p.n + IntKind.i64.wrap ((x_1.i + vlu (sbyte (rsT s x_1.p) 0) * x_1.w).tdiv ((↑p.o.length : Int) + (1 : Int))) > (1114111 : Int))) = true) ∧ ((!decide (p.n + IntKind.i64.wrap ((x_1.i + vlu (sbyte (rsT s x_1.p) 0) * x_1.w).tdiv ((↑p.o.length : Int) + (1 : Int))) > (1114111 : Int))) = true → (!decide (p.n + IntKind.i64.wrap ((x_1.i + vlu (sbyte (rsT s x_1.p) 0) * x_1.w).tdiv ((↑p.o.length : Int) + (1 : Int))) > (1114111 : Int))) = true) ∧ ((!decide (p.n + IntKind.i64.wrap ((x_1.i + vlu (sbyte (rsT s x_1.p) 0) * x_1.w).tdiv ((↑p.o.length : Int) + (1 : Int))) > (1114111 : Int))) = true → (!decide (p.n + IntKind.i64.wrap ((x_1.i + vlu (sbyte (rsT s x_1.p) 0) * x_1.w).tdiv ((↑p.o.length : Int) + (1 : Int))) > (1114111 : Int))) = true) ∧ (decide (p.n + IntKind.i64.wrap ((x_1.i + vlu (sbyte (rsT s x_1.p) 0) * x_1.w).tdiv ((↑p.o.length : Int) + (1 : Int))) > (1114111 : Int)) = false → (!decide (p.n + IntKind.i64.wrap ((x_1.i + vlu (sbyte (rsT s x_1.p) 0) * x_1.w).tdiv ((↑p.o.length : Int) + (1 : Int))) > (1114111 : Int))) = true) ∧ ((decide (p.n + IntKind.i64.wrap ((x_1.i + vlu (sbyte (rsT s x_1.p) 0) * x_1.w).tdiv ((↑p.o.length : Int) + (1 : Int))) > (1114111 : Int)) || decide (p.n + IntKind.i64.wrap ((x_1.i + vlu (sbyte (rsT s x_1.p) 0) * x_1.w).tdiv ((↑p.o.length : Int) + (1 : Int))) ≥ (55296 : Int)) && decide (p.n + IntKind.i64.wrap ((x_1.i + vlu (sbyte (rsT s x_1.p) 0) * x_1.w).tdiv ((↑p.o.length : Int) + (1 : Int))) ≤ (57343 : Int))) = true → (decR s).fst.length = (0 : Nat) ∧ (3 : Int) = (decR s).snd ∧ True) ∧ ((decide (p.n + IntKind.i64.wrap ((x_1.i + vlu (sbyte (rsT s x_1.p) 0) * x_1.w).tdiv ((↑p.o.length : Int) + (1 : Int))) > (1114111 : Int)) || decide (p.n + IntKind.i64.wrap ((x_1.i + vlu (sbyte (rsT s x_1.p) 0) * x_1.w).tdiv ((↑p.o.length : Int) + (1 : Int))) ≥ (55296 : Int)) && decide (p.n + IntKind.i64.wrap ((x_1.i + vlu (sbyte (rsT s x_1.p) 0) * x_1.w).tdiv ((↑p.o.length : Int) + (1 : Int))) ≤ (57343 : Int))) = false → (0 : Int) ≤ (0 : Int) ∧ (0 : Int) ≤ (x_1.i + vlu (sbyte (rsT s x_1.p) 0) * x_1.w).tmod ((↑p.o.length : Int) + (1 : Int)) ∧ (x_1.i + vlu (sbyte (rsT s x_1.p) 0) * x_1.w).tmod ((↑p.o.length : Int) + (1 : Int)) ≤ (↑p.o.length : Int) ∧ (0 : Int) ≤ (x_1.i + vlu (sbyte (rsT s x_1.p) 0) * x_1.w).tmod ((↑p.o.length : Int) + (1 : Int)) ∧ (x_1.i + vlu (sbyte (rsT s x_1.p) 0) * x_1.w).tmod ((↑p.o.length : Int) + (1 : Int)) ≤ (↑p.o.length : Int) ∧ (↑p.o.length : Int) ≤ (↑p.o.length : Int) ∧ (0 : Nat) + ((x_1.i + vlu (sbyte (rsT s x_1.p) 0) * x_1.w).tmod ((↑p.o.length : Int) + (1 : Int))).toNat + ((↑p.o.length : Int) - (x_1.i + vlu (sbyte (rsT s x_1.p) 0) * x_1.w).tmod ((↑p.o.length : Int) + (1 : Int))).toNat ≤ p.o.length ∧ ((1 : Nat) + ((↑p.o.length : Int) - (x_1.i + vlu (sbyte (rsT s x_1.p) 0) * x_1.w).tmod ((↑p.o.length : Int) + (1 : Int))).toNat) * (4 : Nat) ≤ (140737488355328 : Nat) ∧ (1 : Nat) + ((↑p.o.length : Int) - (x_1.i + vlu (sbyte (rsT s x_1.p) 0) * x_1.w).tmod ((↑p.o.length : Int) + (1 : Int))).toNat ≤ (140737488355328 : Nat) ∧ ((x_1.i + vlu (sbyte (rsT s x_1.p) 0) * x_1.w).tmod ((↑p.o.length : Int) + (1 : Int)) - (0 : Int)).toNat.le p.o.length ∧ (((x_1.i + vlu (sbyte (rsT s x_1.p) 0) * x_1.w).tmod ((↑p.o.length : Int) + (1 : Int)) - (0 : Int)).toNat + ((1 : Nat) + ((↑p.o.length : Int) - (x_1.i + vlu (sbyte (rsT s x_1.p) 0) * x_1.w).tmod ((↑p.o.length : Int) + (1 : Int))).toNat)) * (4 : Nat) ≤ (140737488355328 : Nat) ∧ ((x_1.i + vlu (sbyte (rsT s x_1.p) 0) * x_1.w).tmod ((↑p.o.length : Int) + (1 : Int)) - (0 : Int)).toNat + ((1 : Nat) + ((↑p.o.length : Int) - (x_1.i + vlu (sbyte (rsT s x_1.p) 0) * x_1.w).tmod ((↑p.o.length : Int) + (1 : Int))).toNat) ≤ (140737488355328 : Nat) ∧ in64 ((x_1.i + vlu (sbyte (rsT s x_1.p) 0) * x_1.w).tmod ((↑p.o.length : Int) + (1 : Int)) + (1 : Int)) ∧ ∃ (x' : (deI2 s).σ), (DOK s x' ∧ decK s (dcG x'.f (lst s x'.p) x'.n x'.i x'.b x'.o) = decR s) ∧ s.size - x'.p < s.size - x.p ∧ true = true ∧ s = s ∧ XV.sl 0 1 0 (((x_1.i + vlu (sbyte (rsT s x_1.p) 0) * x_1.w).tmod ((↑p.o.length : Int) + (1 : Int)) - (0 : Int)).toNat + ((1 : Nat) + ((↑p.o.length : Int) - (x_1.i + vlu (sbyte (rsT s x_1.p) 0) * x_1.w).tmod ((↑p.o.length : Int) + (1 : Int))).toNat)) = XV.sl 0 1 0 x'.o.length ∧ p.n + IntKind.i64.wrap ((x_1.i + vlu (sbyte (rsT s x_1.p) 0) * x_1.w).tdiv ((↑p.o.length : Int) + (1 : Int))) = x'.n ∧ (x_1.i + vlu (sbyte (rsT s x_1.p) 0) * x_1.w).tmod ((↑p.o.length : Int) + (1 : Int)) + (1 : Int) = x'.i ∧ adp (x_1.i + vlu (sbyte (rsT s x_1.p) 0) * x_1.w - p.i) ((↑p.o.length : Int) + (1 : Int)) (p.i == (0 : Int)) = x'.b ∧ (rsT s x_1.p).extract ((1 : Nat)) (↑(rsT s x_1.p).size : Int).toNat = rsT s x'.p ∧ (((21 : TypeId) = (21 : TypeId) ∧ true = true ∧ (1 : Nat) = (1 : Nat)) ∧ ((x_1.i + vlu (sbyte (rsT s x_1.p) 0) * x_1.w).tmod ((↑p.o.length : Int) + (1 : Int)) - (0 : Int)).toNat + ((1 : Nat) + ((↑p.o.length : Int) - (x_1.i + vlu (sbyte (rsT s x_1.p) 0) * x_1.w).tmod ((↑p.o.length : Int) + (1 : Int))).toNat) = x'.o.length ∧ ∀ (j : Nat), j < ((x_1.i + vlu (sbyte (rsT s x_1.p) 0) * x_1.w).tmod ((↑p.o.length : Int) + (1 : Int)) - (0 : Int)).toNat + ((1 : Nat) + ((↑p.o.length : Int) - (x_1.i + vlu (sbyte (rsT s x_1.p) 0) * x_1.w).tmod ((↑p.o.length : Int) + (1 : Int))).toNat) → [Bool.rec (Bool.rec (X32 (p.o.getD ((0 : Nat) + ((x_1.i + vlu (sbyte (rsT s x_1.p) 0) * x_1.w).tmod ((↑p.o.length : Int) + (1 : Int))).toNat + (j - ((x_1.i + vlu (sbyte (rsT s x_1.p) 0) * x_1.w).tmod ((↑p.o.length : Int) + (1 : Int)) - (0 : Int)).toNat - (1 : Nat))) 0)) (X32 (IntKind.i32.wrap (p.n + IntKind.i64.wrap ((x_1.i + vlu (sbyte (rsT s x_1.p) 0) * x_1.w).tdiv ((↑p.o.length : Int) + (1 : Int)))))) ((j - ((x_1.i + vlu (sbyte (rsT s x_1.p) 0) * x_1.w).tmod ((↑p.o.length : Int) + (1 : Int)) - (0 : Int)).toNat).blt 1)) (X32 (p.o.getD j 0)) (j.blt ((x_1.i + vlu (sbyte (rsT s x_1.p) 0) * x_1.w).tmod ((↑p.o.length : Int) + (1 : Int)) - (0 : Int)).toNat)] = [X32 (x'.o.getD j 0)]) ∧ True)) ∧ (decide (vlu (sbyte (rsT s x_1.p) 0) < thr x_1.k p.b) = false → in64 ((36 : Int) - thr x_1.k p.b) ∧ in64 (x_1.w * ((36 : Int) - thr x_1.k p.b)) ∧ in64 (x_1.k + (36 : Int)) ∧ ∃ (x' : ({ α := DS, J := deI4 s : InvP }.J p).σ), (TOK s p x' ∧ decK s (dcN (p.f - (1 : Nat)) p.n p.i p.o (dnG p.b (lst s x'.p) x'.i x'.w x'.k)) = decR s) ∧ s.size - x'.p < s.size - x_1.p ∧ true = true ∧ s = s ∧ XV.sl 0 1 0 p.o.length = XV.sl 0 1 0 p.o.length ∧ p.n = p.n ∧ x_1.i + vlu (sbyte (rsT s x_1.p) 0) * x_1.w = x'.i ∧ p.b = p.b ∧ (rsT s x_1.p).extract ((1 : Nat)) (↑(rsT s x_1.p).size : Int).toNat = rsT s x'.p ∧ p.i = p.i ∧ x_1.w * ((36 : Int) - thr x_1.k p.b) = x'.w ∧ x_1.k + (36 : Int) = x'.k ∧ (((21 : TypeId) = (21 : TypeId) ∧ true = true ∧ (1 : Nat) = (1 : Nat)) ∧ p.o.length = p.o.length ∧ ∀ (j : Nat), j < p.o.length → [X32 (p.o.getD j 0)] = [X32 (p.o.getD j 0)]) ∧ True)))) ∧ ((!decide (rsT s x.p = ⟨#[]⟩)) = false → x.o.length = x.o.length ∧ (∀ (i : Nat), i < x.o.length → [X32 (x.o.getD i 0)] = [X32 (Option.rec 0 (fun (val : Int) => val) x.o[i]?)]) ∧ x.o.length ≤ (2000 : Nat) ∧ (∀ (i : Nat), i < x.o.length → (0 : Int) ≤ Option.rec 0 (fun (val : Int) => val) x.o[i]? ∧ Option.rec 0 (fun (val : Int) => val) x.o[i]? ≤ (1114111 : Int)) ∧ ((!(encR (fun (i : Nat) => Option.rec 0 (fun (val : Int) => val) x.o[i]?) x.o.length).snd != (0 : Int)) = true → (txtO (encR (fun (i : Nat) => Option.rec 0 (fun (val : Int) => val) x.o[i]?) x.o.length).fst).size ≤ (1000000 : Nat)) ∧ ((!(encR (fun (i : Nat) => Option.rec 0 (fun (val : Int) => val) x.o[i]?) x.o.length).snd != (0 : Int)) = true → ascB (txtO (encR (fun (i : Nat) => Option.rec 0 (fun (val : Int) => val) x.o[i]?) x.o.length).fst)) ∧ ((!(encR (fun (i : Nat) => Option.rec 0 (fun (val : Int) => val) x.o[i]?) x.o.length).snd != (0 : Int)) = true → ascB s) ∧ (((encR (fun (i : Nat) => Option.rec 0 (fun (val : Int) => val) x.o[i]?) x.o.length).snd != (0 : Int) || !eqfB (txtO (encR (fun (i : Nat) => Option.rec 0 (fun (val : Int) => val) x.o[i]?) x.o.length).fst) s) = true → (decR s).fst.length = (0 : Nat) ∧ (3 : Int) = (decR s).snd ∧ True) ∧ (((encR (fun (i : Nat) => Option.rec 0 (fun (val : Int) => val) x.o[i]?) x.o.length).snd != (0 : Int) || !eqfB (txtO (encR (fun (i : Nat) => Option.rec 0 (fun (val : Int) => val) x.o[i]?) x.o.length).fst) s) = false → ((1 : Nat) = (1 : Nat) ∧ x.o.length = (decR s).fst.length ∧ ∀ (j : Nat), j < x.o.length → [X32 (x.o.getD j 0)] = [X32 ((decR s).fst.getD j 0)]) ∧ (0 : Int) = (decR s).snd ∧ True))))
theorem decV_eq (s : ByteArray) : decV s = (funC cxd Tryd.f54 (mkSc (deE s) (bodyOf Tryd.f54)) [XT s] (.tup [fzL (decR s).1, XI (decR s).2])) := by kernel_rfl
theorem OK2.step {q : Sq Int} {h0 : Int} {n : Int} {s : ES} {f : Nat} (hn : q.n ≤ 2000) (hg : ∀ i, i < q.n → 0 ≤ q.g i ∧ q.g i ≤ 1114111) (hK : OK2 q h0 ⟨n, s, f + 1⟩) (h2 : s.h < q.n) (h3 : ¬ s.o.length > 63) :
  OK2 q h0 ⟨mnr q.g n q.n + 1, { rnd q.g q.n h0 n s with d := (rnd q.g q.n h0 n s).d + 1 }, f⟩ ∧ n ≤ mnr q.g n q.n ∧ mnr q.g n q.n ≤ 1114111 ∧ (∀ j, j < q.n → q.g j < n ∨ mnr q.g n q.n ≤ q.g j) := by
 obtain ⟨⟨n0, n1⟩, kh, ⟨h00, h01⟩, ⟨d0, d1⟩, ⟨b0, b1⟩, ko, kl, ⟨f0, f1⟩⟩ := hK
 dsimp only at n0 n1 kh h00 h01 d0 d1 b0 b1 ko kl f0 f1
 have hcn := clt_rng q.g n q.n
 obtain ⟨m0, m1, m2, m3⟩ := mnr_prop q.g n n1 q.n
 obtain ⟨jx, hj1, hj2⟩ := clt_ex q.g n q.n (by omega)
 have hmn : mnr q.g n q.n ≤ q.g jx := by
  rcases m2 jx hj1 with k | k
  ·omega
  ·exact k
 have hgx := (hg jx hj1).2
 obtain ⟨jm, hm1, hm2⟩ : ∃ j, j < q.n ∧ q.g j = mnr q.g n q.n := by
  rcases m3 with k | k
  ·omega
  ·exact k
 have hce := ceq_pos q.g (mnr q.g n q.n) q.n jm hm1 hm2
 have hcr := clt_round q.g n (mnr q.g n q.n) m0 q.n m2
 have hceq := ceq_rng q.g (mnr q.g n q.n) q.n
 have hcm := clt_rng q.g (mnr q.g n q.n + 1) q.n
 have hp0 : 0 ≤ (mnr q.g n q.n - n) * (s.h + 1) := Int.mul_nonneg (by omega) (by omega)
 have hp1 : (mnr q.g n q.n - n) * (s.h + 1) ≤ 1114112 * 2001 := Int.mul_le_mul (by omega) (by omega) (by omega) (by decide)
 have hfn : ((q.n : Int) - (f + 1 : Nat)) * 2300000000 ≤ 2000 * 2300000000 := Int.mul_le_mul (by omega) (Int.le_refl _) (by decide) (by decide)
 obtain ⟨p1, p2, p3, p4, p5, p6, p7⟩ := fol_prop q.g h0 (mnr q.g n q.n) { s with d := s.d + (mnr q.g n q.n - n) * (s.h + 1) } (by show 0 ≤ s.d + _; omega) (by show 0 ≤ s.h; omega) b0 b1 ko q.n (by show s.d + _ + _ ≤ _; omega)
 have ernd : fol q.g h0 (mnr q.g n q.n) { s with d := s.d + (mnr q.g n q.n - n) * (s.h + 1) } q.n = rnd q.g q.n h0 n s := rfl
 rw [ernd] at p1 p2 p3 p4 p5 p6 p7
 dsimp only at p1 p3 p7
 refine ⟨⟨⟨?_, ?_⟩, ?_, ⟨?_, ?_⟩, ⟨?_, ?_⟩, ⟨p4, p5⟩, p6, ?_, ⟨?_, ?_⟩⟩, m0, by omega, m2⟩
 ·show 128 ≤ _ + 1; omega
 ·show mnr q.g n q.n + 1 ≤ 1114112; omega
 ·show (rnd q.g q.n h0 n s).h = clt q.g (mnr q.g n q.n + 1) q.n; omega
 ·omega
 ·show _ ≤ (rnd q.g q.n h0 n s).h; omega
 ·show 0 ≤ (rnd q.g q.n h0 n s).d + 1; omega
 ·show (rnd q.g q.n h0 n s).d + 1 ≤ ((q.n : Int) - (f : Int)) * 2300000000; omega
 ·show (rnd q.g q.n h0 n s).o.length ≤ 50000; omega
 ·show (q.n : Int) - (rnd q.g q.n h0 n s).h ≤ (f : Int); omega
 ·show f ≤ q.n; omega
theorem OK2.start {q : Sq Int} (hn : q.n ≤ 2000) (hg : ∀ i, i < q.n → 0 ≤ q.g i ∧ q.g i ≤ 1114111) : OK2 q (eo0 q.g q.n).length ⟨128, ⟨(eo0 q.g q.n).length, 0, 72, eo1 q.g q.n⟩, q.n⟩ := by
 have hok0 := eo0_ok q.g q.n fun j hj => (hg j hj).1
 have hcl := eo0_len q.g q.n
 have hcr := clt_rng q.g 128 q.n
 have hl1 := eo1_len q.g q.n
 exact ⟨⟨Int.le_refl _, by show (128 : Int) ≤ 1114112; decide⟩, by show ((eo0 q.g q.n).length : Int) = _; omega, ⟨by omega, Int.le_refl _⟩, ⟨Int.le_refl _, by show (0 : Int) ≤ ((q.n : Int) - (q.n : Int)) * 2300000000; omega⟩, ⟨by show (0 : Int) ≤ 72; decide, by show (72 : Int) ≤ 400; decide⟩, eo1_ok _ _ hok0, by show (eo1 q.g q.n).length ≤ 50000; omega, ⟨by show (q.n : Int) - ((eo0 q.g q.n).length : Int) ≤ q.n; omega, Nat.le_refl _⟩⟩
theorem encG_ok {q : Sq Int} {h0 : Int} (hn : q.n ≤ 2000) (hg : ∀ i, i < q.n → 0 ≤ q.g i ∧ q.g i ≤ 1114111) : ∀ (f : Nat) (n : Int) (s : ES), OK2 q h0 ⟨n, s, f⟩ → oOK (encG q.g q.n h0 f n s).1 ∧ (encG q.g q.n h0 f n s).1.length ≤ 63 := by
 intro f
 induction f with
 | zero =>
  intro n s hK
  by_cases h3 : s.o.length > 63
  ·rw [encG_stop h3]; exact ⟨fun x hx => by simp at hx, by simp⟩
  ·have h1 := hK.f.1
   have h2 : ¬ s.h < q.n := by
    have h1 : (q.n : Int) - s.h ≤ (0 : Nat) := h1
    omega
   rw [encG_end h3 h2]; exact ⟨hK.o, by show s.o.length ≤ 63; omega⟩
 | succ f ih =>
  intro n s hK
  by_cases h3 : s.o.length > 63
  ·rw [encG_stop h3]; exact ⟨fun x hx => by simp at hx, by simp⟩
  ·by_cases h2 : s.h < q.n
   ·rw [encG_go h3 h2]
    exact ih _ _ (hK.step hn hg h2 h3).1
   ·rw [encG_end h3 h2]; exact ⟨hK.o, by show s.o.length ≤ 63; omega⟩
theorem encR_ok {q : Sq Int} (hn : q.n ≤ 2000) (hg : ∀ i, i < q.n → 0 ≤ q.g i ∧ q.g i ≤ 1114111) : oOK (encR q.g q.n).1 ∧ (encR q.g q.n).1.length ≤ 63 := encG_ok hn hg _ _ _ (OK2.start hn hg)
theorem txtO_data (o : List Int) : (txtO o).data.toList = (List.range o.length).map fun j => UInt8.ofNat (o.getD (0 + j) 0).toNat := rfl
theorem txtO_list (o : List Int) : (txtO o).data.toList = o.map fun x => UInt8.ofNat x.toNat := by
 rw [txtO_data]
 apply List.ext_getElem?
 intro i
 rw [List.getElem?_map, List.getElem?_map]
 by_cases h : i < o.length
 ·rw [List.getElem?_range h, List.getElem?_eq_getElem h]
  simp only [Option.map_some, Nat.zero_add]
  rw [List.getD_eq_getElem?_getD, List.getElem?_eq_getElem h]
  rfl
 ·rw [List.getElem?_eq_none (by simpa using h), List.getElem?_eq_none (by omega)]
  rfl
theorem txtO_size (o : List Int) : (txtO o).size = o.length := by rw [size_data, txtO_list, List.length_map]
theorem txtO_asc {o : List Int} (h : oOK o) : ascB (txtO o) := by
 intro b hb
 rw [txtO_list] at hb
 obtain ⟨x, hx, rfl⟩ := List.mem_map.1 hb
 have := h x hx
 rw [UInt8.toNat_ofNat']
 omega
theorem lst_nil {s : ByteArray} {p : Nat} (h : s.size ≤ p) : lst s p = [] := List.drop_of_length_le (by rw [size_data] at h; exact h)
theorem lst_cons {s : ByteArray} {p : Nat} (h : p < s.size) : ∃ c : UInt8, lst s p = c :: lst s (p + 1) ∧ (c.toNat : Int) = sbyte s p := by
 rw [size_data] at h
 refine ⟨s.data.toList[p], ?_, ?_⟩
 ·unfold lst; rw [List.drop_eq_getElem_cons h]
 ·unfold sbyte
  rw [Int.toNat_natCast, List.getD_eq_getElem?_getD, List.getElem?_eq_getElem h]
  rfl
theorem rsT_eq (s : ByteArray) (p : Nat) : rsT s p = mk8 (lst s p) := by
 unfold rsT lst mk8
 rw [Lib.extract_eq, List.take_of_length_le (by rw [List.length_drop, size_data]; exact Nat.le_refl _)]
theorem rsT_size (s : ByteArray) (p : Nat) : (rsT s p).size = s.size - p := by
 rw [rsT_eq, mk8_size, lst, List.length_drop, size_data]
theorem rsT_emp (s : ByteArray) (p : Nat) : decide (rsT s p = ⟨#[]⟩) = decide (s.size ≤ p) := by
 rw [emp_iff, rsT_size, decide_eq_decide]
 omega
theorem rsT_byte {s : ByteArray} {p : Nat} (h : p < s.size) : sbyte (rsT s p) 0 = sbyte s p := by
 obtain ⟨c, h1, h2⟩ := lst_cons h
 rw [rsT_eq, h1, ← h2]
 rfl
theorem rsT_next (s : ByteArray) (p : Nat) : (rsT s p).extract 1 (rsT s p).size = rsT s (p + 1) := by
 rw [rsT_eq, rsT_eq, Lib.extract_eq, mk8_data, mk8_size, List.take_of_length_le (by rw [List.length_drop]; exact Nat.le_refl _)]
 show mk8 (List.drop 1 (List.drop p s.data.toList)) = mk8 (List.drop (p + 1) s.data.toList)
 rw [List.drop_drop]
theorem lastB_spec (s : ByteArray) : (lastB s 45 = -1 ∨ (0 ≤ lastB s 45 ∧ lastB s 45 < s.size ∧ sbyte s (lastB s 45) = 45)) := by
 rcases Lib.lastIndexByte_spec s 45 with ⟨h, -⟩ | ⟨i, h1, h2, h3, -⟩
 ·exact .inl h
 ·right
  have h2 : lastB s 45 = i := h2
  rw [h2]
  refine ⟨by omega, by omega, ?_⟩
  rw [← h3]
  unfold sbyte
  rw [size_data] at h1
  rw [Int.toNat_natCast, List.getD_eq_getElem?_getD, List.getElem?_eq_getElem h1]
  have h1' : i < s.data.size := by simpa using h1
  rw [getElem!_pos s.data i h1']
  rfl
theorem vlu_rng (c : Int) : 0 ≤ vlu c ∧ vlu c ≤ 36 := by
 unfold vlu
 split
 ·omega
 ·split
  ·omega
  ·split <;> omega
theorem vlu_asc {c : Int} (h : vlu c ≠ 36) : c < 128 := by
 unfold vlu at h
 split at h
 ·omega
 ·split at h
  ·omega
  ·split at h
   ·omega
   ·exact absurd rfl h
theorem asc_succ {s : ByteArray} {p : Nat} (h : asc s p) (h1 : sbyte s p < 128) : asc s (p + 1) := fun j hj => by
 by_cases e : j = p
 ·rw [e]; exact h1
 ·exact h j (by omega)
theorem preL_len {s : ByteArray} {m : Nat} (h : m ≤ s.size) : (preL s m).length = m := by
 unfold preL
 rw [List.length_map, List.length_take, ← size_data]
 omega
theorem preL_get {s : ByteArray} {m j : Nat} (h : m ≤ s.size) (hj : j < m) : (preL s m).getD j 0 = sbyte s j := by
 unfold preL sbyte
 rw [size_data] at h
 rw [List.getD_eq_getElem?_getD, List.getElem?_map, List.getElem?_take, if_pos hj, Int.toNat_natCast, List.getD_eq_getElem?_getD, List.getElem?_eq_getElem (by omega)]
 rfl
theorem ins_row (o : List Int) (r : Int) (x : Int) (h0 : 0 ≤ r) (h1 : r ≤ o.length) (j : Nat) (hj : j < (r - 0).toNat + (1 + ((o.length : Int) - r).toNat)) :
  ([Bool.rec (Bool.rec (X32 (o.getD (0 + r.toNat + (j - (r - 0).toNat - 1)) 0)) (X32 x) ((j - (r - 0).toNat).blt 1)) (X32 (o.getD j 0)) (j.blt (r - 0).toNat)] : List XV) = [X32 ((o.take r.toNat ++ x :: o.drop r.toNat).getD j 0)] := by
 obtain ⟨n, rfl⟩ : ∃ n : Nat, r = n := ⟨r.toNat, by omega⟩
 simp only [Int.sub_zero, Int.toNat_natCast, Nat.zero_add] at *
 rw [bltN, bltN, List.getD_eq_getElem?_getD, List.getD_eq_getElem?_getD, List.getD_eq_getElem?_getD]
 have hl : (o.take n).length = n := by rw [List.length_take]; omega
 by_cases e : j < n
 ·rw [decide_eq_true e, List.getElem?_append_left (by omega), List.getElem?_take, if_pos e]
 ·rw [decide_eq_false e, List.getElem?_append_right (by omega), hl]
  by_cases e1 : j - n < 1
  ·rw [decide_eq_true e1, show j - n = 0 by omega]; rfl
  ·rw [decide_eq_false e1, show j - n = (j - n - 1) + 1 by omega, List.getElem?_cons_succ, List.getElem?_drop]
   rfl
theorem decR_err {s : ByteArray} (h : decR s = ([], 3)) : (decR s).1.length = 0 ∧ 3 = (decR s).2 ∧ True := by rw [h]; exact ⟨rfl, rfl, trivial⟩
theorem dec_v (s : ByteArray) (hs : s.size ≤ 1000000) : decV s := by
 unfold decV
 refine ⟨fun h => ?_, fun h => ?_⟩
 ·have h : (s.size : Int) > 63 := of_decide_eq_true h
  exact decR_err (by rw [decR, if_pos (by omega)])
 have h63 : ¬ s.size > 63 := by have := of_decide_eq_false h; omega
 clear h
 have hat := lastB_spec s
 have hm : imax (lastB s 45) 0 = if 0 > lastB s 45 then 0 else lastB s 45 := rfl
 have hm0 : 0 ≤ imax (lastB s 45) 0 := by rw [hm]; split <;> omega
 refine ⟨hs, ⟨⟨0⟩, ⟨hm0, fun j hj => absurd hj (Nat.not_lt_zero _)⟩, rfl, rfl, rfl, rfl, rfl, rfl, ⟨⟨rfl, rfl, rfl⟩, rfl, fun j hj => absurd hj (Nat.not_lt_zero _)⟩, trivial⟩, ?_⟩
 rintro ⟨i⟩ ⟨hi, ha⟩
 have hi : (i : Int) ≤ imax (lastB s 45) 0 := hi
 have ha : asc s i := ha
 refine ⟨fun h => ?_, fun h => ?_⟩
 ·have h : (i : Int) < imax (lastB s 45) 0 := of_decide_eq_true h
  have hia : (i : Int) < lastB s 45 := by rw [hm] at h; split at h <;> omega
  dsimp only
  refine ⟨by omega, by omega, fun hb => ?_, fun hb => ?_⟩
  ·have hb : sbyte s (i : Int) ≥ 128 := of_decide_eq_true hb
   exact decR_err (by rw [decR, if_neg h63, if_pos ⟨i, by omega, hb⟩])
  ·have hb : ¬ sbyte s (i : Int) ≥ 128 := of_decide_eq_false hb
   have hbr := sb_rng s (i : Int)
   refine ⟨by omega, by omega, Nat.le_refl _, by omega, by omega, by unfold in64; omega, ⟨i + 1⟩, ⟨by show ((i + 1 : Nat) : Int) ≤ _; omega, asc_succ ha (by omega)⟩, by show s.size - (i + 1) < s.size - i; omega, rfl, rfl, rfl, rfl, rfl, rfl, ⟨⟨rfl, rfl, rfl⟩, rfl, fun j hj => ?_⟩, trivial⟩
   rw [w32 (by omega) (by omega), bltN]
   by_cases e : j < i
   ·rw [decide_eq_true e]
   ·rw [decide_eq_false e, show j = i by omega]
 have h : ¬ (i : Int) < imax (lastB s 45) 0 := of_decide_eq_false h
 have him : (imax (lastB s 45) 0).toNat = i := by omega
 have hat1 : -1 ≤ lastB s 45 ∧ lastB s 45 < s.size := by omega
 have hip : i ≤ (lastB s 45 + 1).toNat := by rw [← him, hm]; split <;> omega
 have hap : asc s (lastB s 45 + 1).toNat := fun j hj => by
  by_cases e : j < i
  ·exact ha j e
  ·have : imax (lastB s 45) 0 = lastB s 45 := by rw [hm, if_neg]; omega
   have ej : (j : Int) = lastB s 45 := by omega
   rw [ej]
   rcases hat with k | ⟨_, _, k⟩ <;> omega
 have hpl : (preL s i).length = i := preL_len (by omega)
 have hR : decK s (dcG (s.size + 1) (lst s (lastB s 45 + 1).toNat) 128 0 72 (preL s i)) = decR s := by
  rw [decR, if_neg h63, if_neg, him]
  rintro ⟨j, h1, h2⟩
  have := ha j (by omega)
  omega
 dsimp only
 refine ⟨by unfold in64; omega, by omega, by omega, by omega, ⟨⟨(lastB s 45 + 1).toNat, 128, 0, 72, preL s i, s.size + 1⟩, ⟨⟨by show (lastB s 45 + 1).toNat ≤ s.size; omega, by show s.size < (lastB s 45 + 1).toNat + (s.size + 1); omega, by show (preL s i).length ≤ (lastB s 45 + 1).toNat; omega, ⟨Int.le_refl _, by show (0 : Int) ≤ ((preL s i).length : Int); omega⟩, ⟨Int.le_refl _, by show (128 : Int) ≤ 1114111; decide⟩, ⟨by show (0 : Int) ≤ 72; decide, by show (72 : Int) ≤ 400; decide⟩, hap, fun y hy => ?_⟩, hR⟩, rfl, rfl, by rw [hpl], rfl, rfl, rfl, rfl, ⟨⟨rfl, rfl, rfl⟩, by rw [hpl], fun j hj => by rw [preL_get (by omega) hj]⟩, trivial⟩, ?_⟩
 ·unfold preL at hy
  obtain ⟨c, -, rfl⟩ := List.mem_map.1 hy
  have := UInt8.toNat_lt c
  omega
 clear hR hap hip him h ha hi hpl
 rintro ⟨p, n, i1, b, o, f⟩ ⟨hK, hG⟩
 obtain ⟨k1, k2, k3, ⟨i0, i2⟩, ⟨n0, n1⟩, ⟨b0, b1⟩, ka, ko⟩ := hK
 dsimp only at k1 k2 k3 i0 i2 n0 n1 b0 b1 ka ko hG
 dsimp only
 rw [rsT_emp]
 refine ⟨fun h => ?_, fun h => ?_⟩
 ·have hp : p < s.size := by
   have h : ¬ s.size ≤ p := by simpa using h
   omega
  clear h
  obtain ⟨c0, e0, -⟩ := lst_cons hp
  obtain ⟨f, rfl⟩ : ∃ f', f = f' + 1 := ⟨f - 1, by omega⟩
  rw [e0, dcG_cons, ← e0] at hG
  refine ⟨⟨p, n, i1, b, o, f + 1⟩, ⟨⟨p, i1, 1, 36⟩, ⟨⟨⟨Nat.le_refl _, k1⟩, ⟨Int.le_refl _, by show i1 ≤ 2566911744; omega⟩, ⟨Int.le_refl _, by show (1 : Int) ≤ 2495608640; decide⟩, ⟨Int.le_refl _, by show (36 : Int) + 36 * (p : Int) ≤ 36 + 36 * (p : Int); omega⟩, ka⟩, hG⟩, rfl, rfl, rfl, rfl, rfl, rfl, rfl, rfl, rfl, rfl, ⟨⟨rfl, rfl, rfl⟩, rfl, fun j hj => rfl⟩, trivial⟩, ?_⟩
  clear hG e0
  rintro ⟨p1, i3, w, k⟩ ⟨hT, hG⟩
  obtain ⟨⟨t1, t2⟩, ⟨t3, t4⟩, ⟨t5, t6⟩, ⟨t7, t8⟩, ta⟩ := hT
  dsimp only at t1 t2 t3 t4 t5 t6 t7 t8 ta hG
  rw [show f + 1 - 1 = f from rfl] at hG
  dsimp only
  rw [rsT_emp]
  refine ⟨fun h => ?_, fun h => ?_⟩
  ·have h : s.size ≤ p1 := of_decide_eq_true h
   rw [lst_nil h] at hG
   exact decR_err hG.symm
  have hp1 : p1 < s.size := by have := of_decide_eq_false h; omega
  clear h
  obtain ⟨c, e1, e2⟩ := lst_cons hp1
  rw [rsT_byte hp1, rsT_size]
  have hbr := sb_rng s (p1 : Int)
  have hv := vlu_rng (sbyte s (p1 : Int))
  rw [e1, dnG, e2] at hG
  refine ⟨Int.le_refl _, by omega, by decide, by omega, Int.le_refl _, fun h => ?_, fun h => ?_⟩
  ·rw [if_pos] at hG
   ·exact decR_err hG.symm
   ·simpa [or_assoc] using h
  have hno : ¬ (vlu (sbyte s (p1 : Int)) = 36 ∨ i3 > 71303104 ∨ w > 71303104) := by
   intro hx
   have : (vlu (sbyte s (p1 : Int)) == 36 || decide (i3 > 71303104) || decide (w > 71303104)) = true := by simpa [or_assoc] using hx
   rw [this] at h; cases h
  clear h
  rw [if_neg hno] at hG
  have hv36 : vlu (sbyte s (p1 : Int)) ≠ 36 := fun hx => hno (.inl hx)
  have hca := vlu_asc hv36
  have hm1 : 0 ≤ vlu (sbyte s (p1 : Int)) * w := Int.mul_nonneg hv.1 (by omega)
  have hm2 : vlu (sbyte s (p1 : Int)) * w ≤ 35 * 71303104 := Int.mul_le_mul (by omega) (by omega) (by omega) (by decide)
  have ht := thr_rng k b
  have hap := asc_succ ta hca
  generalize vlu (sbyte s (p1 : Int)) = v at *
  refine ⟨by unfold in64; omega, by unfold in64; omega, by unfold in64; omega, fun h => ?_, fun h => ?_⟩
  ·have h : v < thr k b := of_decide_eq_true h
   rw [if_pos h, dcN] at hG
   generalize hj : i3 + v * w = j at *
   have hj0 : 0 ≤ j := by omega
   have hq1 : 0 ≤ j / ((o.length : Int) + 1) := Int.ediv_nonneg hj0 (by omega)
   have hq2 : j / ((o.length : Int) + 1) ≤ j := Int.ediv_le_self _ hj0
   have hr1 : 0 ≤ j % ((o.length : Int) + 1) := Int.emod_nonneg _ (by omega)
   have hr2 : j % ((o.length : Int) + 1) < (o.length : Int) + 1 := Int.emod_lt_of_pos _ (by omega)
   have hw := wdiv (a := j) (b := (o.length : Int) + 1) hj0 (by omega) (by omega)
   have hmd : j.tmod ((o.length : Int) + 1) = j % ((o.length : Int) + 1) := Int.tmod_eq_emod_of_nonneg hj0
   rw [hw, hmd]
   have hb := adp_rng (j - i1) ((o.length : Int) + 1) (i1 == 0) (by omega) (by omega) (by omega)
   generalize hn' : n + j / ((o.length : Int) + 1) = n' at *
   generalize hr : j % ((o.length : Int) + 1) = r at *
   refine ⟨by unfold in64; omega, by unfold in64; omega, by omega, by omega, by omega, by omega, by unfold in64; omega, by omega, fun h => h, fun h => h, fun h => h, fun h => by rw [h]; rfl, fun h => ?_, fun h => ?_⟩
   ·rw [if_pos] at hG
    ·exact decR_err hG.symm
    ·unfold badR; simpa using h
   have hnb : ¬ badR n' := by
    intro hx
    unfold badR at hx
    have : (decide (n' > 1114111) || decide (n' ≥ 55296) && decide (n' ≤ 57343)) = true := by simpa using hx
    rw [this] at h; cases h
   clear h
   rw [if_neg hnb] at hG
   have hn2 : n' ≤ 1114111 := Int.not_lt.1 fun hx => hnb (.inl hx)
   have hl2 : (o.take r.toNat ++ n' :: o.drop r.toNat).length = o.length + 1 := by
    rw [List.length_append, List.length_take, List.length_cons, List.length_drop]; omega
   refine ⟨by decide, hr1, by omega, hr1, by omega, by omega, by omega, by omega, by omega, by show (r - 0).toNat ≤ o.length; omega, by omega, by omega, by unfold in64; omega,
    ⟨p1 + 1, n', r + 1, adp (j - i1) ((o.length : Int) + 1) (i1 == 0), o.take r.toNat ++ n' :: o.drop r.toNat, f⟩, ⟨⟨by show p1 + 1 ≤ s.size; omega, by show s.size < p1 + 1 + f; omega, by show (o.take r.toNat ++ n' :: o.drop r.toNat).length ≤ p1 + 1; omega, ⟨by show 0 ≤ r + 1; omega, by show r + 1 ≤ ((o.take r.toNat ++ n' :: o.drop r.toNat).length : Int); omega⟩, ⟨by show 128 ≤ n'; omega, hn2⟩, hb, hap, fun y hy => ?_⟩, hG⟩, by show s.size - (p1 + 1) < s.size - p; omega, rfl, rfl, ?_, rfl, rfl, rfl, ?_, ⟨⟨rfl, rfl, rfl⟩, ?_, fun j hj => ?_⟩, trivial⟩
   ·rcases List.mem_append.1 hy with k | k
    ·exact ko y (List.mem_of_mem_take k)
    ·rcases List.mem_cons.1 k with rfl | k
     ·omega
     ·exact ko y (List.mem_of_mem_drop k)
   ·show XV.sl 0 1 0 _ = XV.sl 0 1 0 (o.take r.toNat ++ n' :: o.drop r.toNat).length
    rw [hl2]
    congr 1
    omega
   ·have := rsT_next s p1
    rw [rsT_size] at this
    exact this
   ·show _ = (o.take r.toNat ++ n' :: o.drop r.toNat).length
    rw [hl2]
    omega
   ·rw [w32 (by omega) (by omega)]
    exact ins_row o r n' hr1 (by omega) j hj
  ·have h : ¬ v < thr k b := of_decide_eq_false h
   rw [if_neg h] at hG
   generalize thr k b = t at *
   have hw1 : 1 ≤ w * (36 - t) := by
    have : w * 1 ≤ w * (36 - t) := Int.mul_le_mul_of_nonneg_left (by omega) (by omega)
    omega
   have hw2 : w * (36 - t) ≤ 71303104 * 35 := Int.mul_le_mul (by omega) (by omega) (by omega) (by decide)
   refine ⟨by unfold in64; omega, by unfold in64; omega, by unfold in64; omega, ⟨p1 + 1, i3 + v * w, w * (36 - t), k + 36⟩, ⟨⟨⟨by show p ≤ p1 + 1; omega, by show p1 + 1 ≤ s.size; omega⟩, ⟨by show i1 ≤ i3 + v * w; omega, by show i3 + v * w ≤ 2566911744; omega⟩, ⟨hw1, by show w * (36 - t) ≤ 2495608640; omega⟩, ⟨by show 36 ≤ k + 36; omega, by show k + 36 + 36 * (p : Int) ≤ 36 + 36 * ((p1 + 1 : Nat) : Int); omega⟩, hap⟩, hG⟩, by show s.size - (p1 + 1) < s.size - p1; omega, rfl, rfl, rfl, rfl, rfl, rfl, ?_, rfl, rfl, rfl, ⟨⟨rfl, rfl, rfl⟩, rfl, fun j hj => rfl⟩, trivial⟩
   have := rsT_next s p1
   rw [rsT_size] at this
   exact this
 ·have hp : s.size ≤ p := by simpa using h
  clear h
  have hA : (fun i : Nat => Option.rec (motive := fun _ => Int) 0 (fun v => v) o[i]?) = fun j => o.getD j 0 := by
   funext j; exact (getD_rec o j).symm
  have hnil : lst s p = [] := lst_nil hp
  have hd : dcG f [] n i1 b o = some o := by cases f <;> rfl
  rw [hnil, hd] at hG
  have hg : ∀ i, i < o.length → 0 ≤ o.getD i 0 ∧ o.getD i 0 ≤ 1114111 := fun i hi => by
   rw [List.getD_eq_getElem?_getD, List.getElem?_eq_getElem hi]
   exact ko _ (List.getElem_mem hi)
  obtain ⟨q1, q2⟩ := encR_ok (q := ⟨o.length, fun j => o.getD j 0⟩) (by show o.length ≤ 2000; omega) hg
  dsimp only at q1 q2
  rw [hA]
  have hsa : ascB s := by
   intro b hb
   obtain ⟨j, hj, rfl⟩ := List.getElem_of_mem hb
   have := ka j (by rw [size_data] at hp; omega)
   unfold sbyte at this
   rw [Int.toNat_natCast, List.getD_eq_getElem?_getD, List.getElem?_eq_getElem hj] at this
   simp only [Option.getD_some] at this
   omega
  refine ⟨rfl, fun i hi => congrArg (fun z => [X32 z]) (getD_rec o i), by omega, fun i hi => ?_, fun _ => by rw [txtO_size]; omega, fun _ => txtO_asc q1, fun _ => hsa, fun h => ?_, fun h => ?_⟩
  ·have := hg i hi
   rw [getD_rec] at this
   exact this
  ·rw [decK, if_pos] at hG
   ·exact decR_err hG.symm
   ·simpa using h
  ·rw [decK, if_neg] at hG
   ·rw [← hG]; exact ⟨⟨rfl, rfl, fun j _ => rfl⟩, rfl, trivial⟩
   ·simpa using h
def decC : CT := C1 dStr (fun s => [s.size ≤ 1000000]) fun s => .tup [fzL (decR s).1, XI (decR s).2]
theorem cxd_ok : cxd.ok Tryd.prog := (((((((cx0_ok.addC eqf_ok).addC last_ok).addC adp_ok).addC thr_ok).addC vlu_ok).addC enc_ok)).setK true
theorem dec_ok : CTok Tryd.prog 54 decC := C1_ok cxd_ok Tryd.func54 rfl (by decide) dStr_eq.ok (by kernel_rfl) (fun _ => rfl) fun s hc => exv (decV_eq s) (dec_v s (hc _ (by simp)))
end Go.Proofs.YtaglpckihegmoaaDoorAv
namespace Go.Proofs.YtaglpckihegmoaaDoorAv
open Go
theorem index1_eq (c : UInt8) (l : List UInt8) : Lib.index (c :: l) [c] = 0 := by
 unfold Lib.index
 rw [if_pos (by simp [List.isPrefixOf])]
theorem index1_ne {b c : UInt8} (h : b ≠ c) (l : List UInt8) : Lib.index (b :: l) [c] = if Lib.index l [c] = -1 then -1 else Lib.index l [c] + 1 := by
 conv => lhs; unfold Lib.index
 rw [if_neg (by simp [List.isPrefixOf]; exact fun h' => h h'.symm)]
 simp
def split1 (c : UInt8) : List UInt8 → List (List UInt8)
 | [] => [[]]
 | b :: l => if b = c then [] :: split1 c l else match split1 c l with
  | h :: t => (b :: h) :: t
  | [] => [[b]]
theorem split1_ne (c : UInt8) : ∀ l, split1 c l ≠ []
 | [] => by simp [split1]
 | b :: l => by
  unfold split1
  split
  ·simp
  ·split <;> simp
theorem split_one (c : UInt8) : ∀ l : List UInt8, Lib.split l [c] = split1 c l
 | [] => rfl
 | b :: l => by
  have ih := split_one c l
  unfold Lib.split at ih ⊢
  unfold split1
  by_cases h : b = c
  ·subst h
   rw [Lib.count_cons_eq, Nat.add_comm, if_pos rfl, ← ih]
   unfold Lib.splitK
   rw [index1_eq]
   cases hk : Lib.count l [b] with
   | zero => simp [Lib.splitK]
   | succ k => simp [Lib.splitK]
  ·rw [Lib.count_cons_ne _ _ _ h, if_neg h, ← ih]
   cases hk : Lib.count l [c] with
   | zero => simp [Lib.splitK]
   | succ k =>
    obtain ⟨i, hi⟩ := Lib.index_of_count (s := l) (old := [c]) (by omega)
    unfold Lib.splitK
    have h1 : (if (i : Int) = -1 then -1 else (i : Int) + 1) = (i : Int) + 1 := if_neg (by omega)
    have e : ((i : Int) + 1).toNat = i + 1 := by omega
    have h2 : ¬ ((i : Int) + 1 = -1) := by omega
    have h3 : ¬ ((i : Int) = -1) := by omega
    rw [index1_ne h, hi, h1]
    simp [e, h2, h3]
end Go.Proofs.YtaglpckihegmoaaDoorAv
namespace Go.Proofs.YtaglpckihegmoaaDoorAv
open Go Go.RowKit
def splitS (s sep : ByteArray) : List ByteArray := (Lib.split s.data.toList sep.data.toList).map mk8
theorem splitS_one (s : ByteArray) (c : UInt8) : splitS s ⟨#[c]⟩ = (split1 c s.data.toList).map mk8 := by
 unfold splitS
 rw [show ((⟨#[c]⟩ : ByteArray).data.toList) = [c] from rfl, split_one]
theorem split1_len (c : UInt8) : ∀ l : List UInt8, (split1 c l).length ≤ l.length + 1
 | [] => by simp [split1]
 | b :: l => by
  have := split1_len c l
  unfold split1
  split
  ·simp; omega
  ·split
   ·rename_i h t heq; rw [heq] at this; simp at this ⊢; omega
   ·simp
theorem splitS_len (s : ByteArray) (c : UInt8) : (splitS s ⟨#[c]⟩).length ≤ s.size + 1 := by
 rw [splitS_one, List.length_map, size_data s]; exact split1_len c _
theorem row_app2 {α : Type} (l : List α) (x d : α) (j : Nat) (h : j < l.length + 1) : (bif j.blt l.length then l.getD j d else x) = (l ++ [x]).getD j d := by
 rw [bltN]
 by_cases hj : j < l.length
 ·rw [decide_eq_true hj, cond_true, List.getD_eq_getElem?_getD, List.getD_eq_getElem?_getD, List.getElem?_append_left hj]
 ·have : j = l.length := by omega
  rw [decide_eq_false hj, cond_false, this, List.getD_eq_getElem?_getD, List.getElem?_append_right (Nat.le_refl _)]
  simp
theorem take_snoc' {α : Type} (l : List α) (i : Nat) (d : α) (h : i < l.length) : l.take (i + 1) = l.take i ++ [l.getD i d] := by
 rw [List.take_succ_eq_append_getElem h, List.getD_eq_getElem?_getD, List.getElem?_eq_getElem h]; rfl
theorem split1_each (c : UInt8) : ∀ l : List UInt8, ∀ x ∈ split1 c l, x.length ≤ l.length
 | [], x, hx => by simp [split1] at hx; simp [hx]
 | b :: l, x, hx => by
  have ih := split1_each c l
  unfold split1 at hx
  split at hx
  ·rcases List.mem_cons.1 hx with rfl | hx
   ·simp
   ·have := ih x hx; simp; omega
  ·split at hx
   ·rename_i h t heq
    rcases List.mem_cons.1 hx with rfl | hx
    ·have := ih h (by rw [heq]; simp); simp; omega
    ·have := ih x (by rw [heq]; simp [hx]); simp; omega
   ·simp at hx; simp [hx]
end Go.Proofs.YtaglpckihegmoaaDoorAv
namespace Go.Proofs.YtaglpckihegmoaaDoorAv
open Go Go.RowKit
def laE (s : ByteArray) (i : Nat) : Prop := (i : Int) = s.size ∨ sbyte s i = 46
instance (s : ByteArray) (i : Nat) : Decidable (laE s i) := inferInstanceAs (Decidable (_ ∨ _))
def laF (s : ByteArray) : Nat → Nat
 | 0 => 0
 | i + 1 => if laE s i then i + 1 else laF s i
def laO (s : ByteArray) : Nat → List ByteArray
 | 0 => []
 | i + 1 => if laE s i then laO s i ++ [s.extract (laF s i) i] else laO s i
def laI (s : ByteArray) : Inv where
 σ := IL
 S := fun x => ⟨[(0, XT s), (2, Xnil), (3, .sl 0 1 0 (laO s x.i).length), (4, XI (laF s x.i)), (8, XI ((s.size : Int) + 1)), (9, XI x.i)], [(0, .vec 9 true (laO s x.i).length 1 fun j => [XT ((laO s x.i).getD j ⟨#[]⟩)])], 1, false, []⟩
 inv := fun x => x.i ≤ s.size + 1
 μ := fun x => s.size + 1 - x.i
def laEn (s : ByteArray) : Env := { loops := [(0, laI s)], own := [(2, [(3, 9, 1)])], frz := [(10, [3])] }
def laV (s : ByteArray) : Prop :=
 in64 ((↑s.size : Int) + (1 : Int)) ∧ (∃ (x : (laI s).σ), x.i.le (s.size + (1 : Nat)) ∧ true = true ∧ s = s ∧ Xnil = Xnil ∧ XV.sl 0 1 0 0 = XV.sl 0 1 0 (laO s x.i).length ∧ (0 : Int) = (↑(laF s x.i) : Int) ∧ (↑s.size : Int) + (1 : Int) = (↑s.size : Int) + (1 : Int) ∧ (0 : Int) = (↑x.i : Int) ∧ (((9 : Nat) = (9 : TypeId) ∧ true = true ∧ (1 : Nat) = (1 : Nat)) ∧ (0 : Nat) = (laO s x.i).length ∧ ∀ (j : Nat), j < (0 : Nat) → [] = [XT ((laO s x.i).getD j ⟨#[]⟩)]) ∧ True) ∧ ∀ (x : IL), x.i.le (s.size + (1 : Nat)) → (decide ((↑x.i : Int) < (↑s.size : Int) + (1 : Int)) = true → ((!(↑x.i : Int) == (↑s.size : Int)) = true → (0 : Int) ≤ (↑x.i : Int)) ∧ ((!(↑x.i : Int) == (↑s.size : Int)) = true → (↑x.i : Int) < (↑s.size : Int)) ∧ (((↑x.i : Int) == (↑s.size : Int) || sbyte s (↑x.i : Int) == (46 : Int)) = true → (0 : Int) ≤ (↑(laF s x.i) : Int) ∧ (↑(laF s x.i) : Int) ≤ (↑x.i : Int) ∧ (↑x.i : Int) ≤ (↑s.size : Int) ∧ (laO s x.i).length = (laO s x.i).length ∧ ((laO s x.i).length + (1 : Nat)) * (16 : Nat) ≤ (140737488355328 : Nat) ∧ (laO s x.i).length + (1 : Nat) ≤ (140737488355328 : Nat) ∧ in64 ((↑x.i : Int) + (1 : Int)) ∧ in64 ((↑x.i : Int) + (1 : Int)) ∧ ∃ (x' : (laI s).σ), x'.i.le (s.size + (1 : Nat)) ∧ s.size + (1 : Nat) - x'.i < s.size + (1 : Nat) - x.i ∧ true = true ∧ s = s ∧ Xnil = Xnil ∧ XV.sl 0 1 0 ((laO s x.i).length + (1 : Nat)) = XV.sl 0 1 0 (laO s x'.i).length ∧ (↑x.i : Int) + (1 : Int) = (↑(laF s x'.i) : Int) ∧ (↑s.size : Int) + (1 : Int) = (↑s.size : Int) + (1 : Int) ∧ (↑x.i : Int) + (1 : Int) = (↑x'.i : Int) ∧ (((9 : TypeId) = (9 : TypeId) ∧ true = true ∧ (1 : Nat) = (1 : Nat)) ∧ (laO s x.i).length + (1 : Nat) = (laO s x'.i).length ∧ ∀ (j : Nat), j < (laO s x.i).length + (1 : Nat) → [XT (bif j.blt (laO s x.i).length then (laO s x.i).getD j ⟨#[]⟩ else s.extract (↑(laF s x.i) : Int).toNat (↑x.i : Int).toNat)] = [XT ((laO s x'.i).getD j ⟨#[]⟩)]) ∧ True) ∧ (((↑x.i : Int) == (↑s.size : Int) || sbyte s (↑x.i : Int) == (46 : Int)) = false → in64 ((↑x.i : Int) + (1 : Int)) ∧ ∃ (x' : (laI s).σ), x'.i.le (s.size + (1 : Nat)) ∧ s.size + (1 : Nat) - x'.i < s.size + (1 : Nat) - x.i ∧ true = true ∧ s = s ∧ Xnil = Xnil ∧ XV.sl 0 1 0 (laO s x.i).length = XV.sl 0 1 0 (laO s x'.i).length ∧ (↑(laF s x.i) : Int) = (↑(laF s x'.i) : Int) ∧ (↑s.size : Int) + (1 : Int) = (↑s.size : Int) + (1 : Int) ∧ (↑x.i : Int) + (1 : Int) = (↑x'.i : Int) ∧ (((9 : TypeId) = (9 : TypeId) ∧ true = true ∧ (1 : Nat) = (1 : Nat)) ∧ (laO s x.i).length = (laO s x'.i).length ∧ ∀ (j : Nat), j < (laO s x.i).length → [XT ((laO s x.i).getD j ⟨#[]⟩)] = [XT ((laO s x'.i).getD j ⟨#[]⟩)]) ∧ True)) ∧ (decide ((↑x.i : Int) < (↑s.size : Int) + (1 : Int)) = false → (laO s x.i).length = (laO s x.i).length ∧ (1 : Nat) = (1 : Nat) ∧ (laO s x.i).length = (laO s (s.size + (1 : Nat))).length ∧ ∀ (j : Nat), j < (laO s x.i).length → [XT ((laO s x.i).getD j ⟨#[]⟩)] = [XT ((laO s (s.size + (1 : Nat))).getD j ⟨#[]⟩)])
theorem laV_eq (s : ByteArray) : laV s = (funC cx0 Tryd.f31 (mkSc (laEn s) (bodyOf Tryd.f31)) [XT s] (strsL (laO s (s.size + 1)))) := by kernel_rfl
def ljF (g : Nat → ByteArray) : Nat → ByteArray
 | 0 => ⟨#[]⟩
 | i + 1 => (if 0 < i then ljF g i ++ ⟨#[46]⟩ else ljF g i) ++ g i
def ljI (q : Sq ByteArray) : Inv where
 σ := IL
 S := fun x => ⟨[(2, XT ⟨#[]⟩), (3, XT (ljF q.g x.i)), (6, sqX 1 (fun s => [XT s]) q), (7, XI q.n), (8, XI x.i)], [], 0, false, []⟩
 inv := fun x => x.i ≤ q.n
 μ := fun x => q.n - x.i
def ljE (q : Sq ByteArray) : Env := { loops := [(0, ljI q)] }
def ljV (q : Sq ByteArray) : Prop :=
  (∃ (x : (ljI q).σ), x.i.le q.n ∧ true = true ∧ { data := #[] : ByteArray } = { data := #[] : ByteArray } ∧ { data := #[] : ByteArray } = ljF q.g x.i ∧ ((XV.fz q.n (1 : Nat) fun (i : Nat) => [XT (q.g i)]) = XV.fz q.n (1 : Nat) fun (i : Nat) => [XT (q.g i)]) ∧ (↑q.n : Int) = (↑q.n : Int) ∧ (0 : Int) = (↑x.i : Int) ∧ True) ∧ ∀ (x : IL), x.i.le q.n → (decide ((↑x.i : Int) < (↑q.n : Int)) = true → (0 : Int) ≤ (↑x.i : Int) ∧ (↑x.i : Int) < (↑q.n : Int) ∧ (decide ((↑x.i : Int) > (0 : Int)) = true → (ljF q.g x.i).size + (1 : Nat) ≤ (9223372036854775807 : Nat) ∧ (ljF q.g x.i ++ { data := #[(46 : UInt8)] : ByteArray }).size + (q.g (↑x.i : Int).toNat).size ≤ (9223372036854775807 : Nat) ∧ in64 ((↑x.i : Int) + (1 : Int)) ∧ ∃ (x' : (ljI q).σ), x'.i.le q.n ∧ q.n - x'.i < q.n - x.i ∧ true = true ∧ { data := #[] : ByteArray } = { data := #[] : ByteArray } ∧ ljF q.g x.i ++ { data := #[(46 : UInt8)] : ByteArray } ++ q.g (↑x.i : Int).toNat = ljF q.g x'.i ∧ ((XV.fz q.n (1 : Nat) fun (i : Nat) => [XT (q.g i)]) = XV.fz q.n (1 : Nat) fun (i : Nat) => [XT (q.g i)]) ∧ (↑q.n : Int) = (↑q.n : Int) ∧ (↑x.i : Int) + (1 : Int) = (↑x'.i : Int) ∧ True) ∧ (decide ((↑x.i : Int) > (0 : Int)) = false → (ljF q.g x.i).size + (q.g (↑x.i : Int).toNat).size ≤ (9223372036854775807 : Nat) ∧ in64 ((↑x.i : Int) + (1 : Int)) ∧ ∃ (x' : (ljI q).σ), x'.i.le q.n ∧ q.n - x'.i < q.n - x.i ∧ true = true ∧ { data := #[] : ByteArray } = { data := #[] : ByteArray } ∧ ljF q.g x.i ++ q.g (↑x.i : Int).toNat = ljF q.g x'.i ∧ ((XV.fz q.n (1 : Nat) fun (i : Nat) => [XT (q.g i)]) = XV.fz q.n (1 : Nat) fun (i : Nat) => [XT (q.g i)]) ∧ (↑q.n : Int) = (↑q.n : Int) ∧ (↑x.i : Int) + (1 : Int) = (↑x'.i : Int) ∧ True)) ∧ (decide ((↑x.i : Int) < (↑q.n : Int)) = false → ljF q.g x.i = ljF q.g q.n)
theorem ljV_eq (q : Sq ByteArray) : ljV q = (funC cx0 Tryd.f42 (mkSc (ljE q) (bodyOf Tryd.f42)) [sqX 1 (fun s => [XT s]) q] (XT (ljF q.g q.n))) := by kernel_rfl
theorem laF_le (s : ByteArray) : ∀ i, laF s i ≤ i
 | 0 => Nat.le_refl _
 | i + 1 => by
  have := laF_le s i
  rw [laF]
  split <;> omega
theorem laO_le (s : ByteArray) : ∀ i, (laO s i).length ≤ i
 | 0 => Nat.le_refl _
 | i + 1 => by
  have := laO_le s i
  rw [laO]
  split
  ·rw [List.length_append]; show _ + 1 ≤ _; omega
  ·omega
theorem split1_snoc (c b : UInt8) : ∀ (l : List UInt8) (A : List (List UInt8)) (x : List UInt8), split1 c l = A ++ [x] → split1 c (l ++ [b]) = if b = c then A ++ [x, []] else A ++ [x ++ [b]]
 | [], A, x, h => by
  have h : [[]] = A ++ [x] := h
  cases A with
  | nil =>
   obtain rfl : [] = x := by simpa using h
   show (if b = c then [] :: split1 c [] else match split1 c [] with | h :: t => (b :: h) :: t | [] => [[b]]) = _
   split <;> rfl
  | cons a A =>
   have := congrArg List.length h
   simp at this
 | a :: l, A, x, h => by
  rw [List.cons_append]
  unfold split1 at h ⊢
  by_cases e : a = c
  ·rw [if_pos e] at h ⊢
   cases A with
   | nil =>
    simp at h
    exact absurd h.2 (split1_ne c l)
   | cons a' A =>
    rw [List.cons_append, List.cons.injEq] at h
    obtain ⟨rfl, h⟩ := h
    rw [split1_snoc c b l A x h]
    split <;> rfl
  ·rw [if_neg e] at h ⊢
   cases hl : split1 c l with
   | nil => exact absurd hl (split1_ne c l)
   | cons y t =>
    rw [hl] at h
    have h : (a :: y) :: t = A ++ [x] := h
    cases A with
    | nil =>
     simp at h
     obtain ⟨rfl, rfl⟩ := h
     rw [split1_snoc c b l [] y hl]
     by_cases hb : b = c
     ·rw [if_pos hb, if_pos hb]; rfl
     ·rw [if_neg hb, if_neg hb]; rfl
    | cons a' A =>
     rw [List.cons_append, List.cons.injEq] at h
     obtain ⟨rfl, rfl⟩ := h
     rw [split1_snoc c b l (y :: A) x hl]
     by_cases hb : b = c
     ·rw [if_pos hb, if_pos hb]; rfl
     ·rw [if_neg hb, if_neg hb]; rfl
theorem sbyte_at (s : ByteArray) (i : Nat) : sbyte s i = ((s.data.toList.getD i 0).toNat : Int) := rfl
theorem laE_lt (s : ByteArray) (i : Nat) (h : i < s.size) : laE s i ↔ s.data.toList.getD i 0 = 46 := by
 unfold laE
 rw [sbyte_at]
 constructor
 ·rintro (h1 | h1)
  ·omega
  ·apply UInt8.toNat_inj.1
   show _ = 46
   omega
 ·intro h1
  right
  rw [h1]
  rfl
theorem ext_data (s : ByteArray) (i j : Nat) (h1 : i ≤ j) (h2 : j ≤ s.size) : (s.extract i j).data.toList = (s.data.toList.drop i).take (j - i) := by
 rw [ByteArray.data_extract, Array.toList_extract]
theorem la_split (s : ByteArray) : ∀ i, i ≤ s.size → split1 46 (s.data.toList.take i) = ((laO s i).map (·.data.toList)) ++ [(s.data.toList.take i).drop (laF s i)]
 | 0, _ => rfl
 | i + 1, h => by
  have ih := la_split s i (by omega)
  have hl : i < s.data.toList.length := by rw [← size_data]; omega
  have hf := laF_le s i
  rw [take_snoc' _ i 0 hl, split1_snoc 46 _ _ _ _ ih, laO, laF]
  by_cases e : laE s i
  ·rw [if_pos e, if_pos e, if_pos ((laE_lt s i (by omega)).1 e), List.map_append, List.append_assoc]
   congr 1
   have e1 : (s.extract (laF s i) i).data.toList = (s.data.toList.take i).drop (laF s i) := by
    rw [ext_data s _ _ hf (by omega), List.drop_take]
   have e2 : (s.data.toList.take i ++ [s.data.toList.getD i 0]).drop (i + 1) = [] := by
    apply List.drop_eq_nil_of_le
    rw [List.length_append, List.length_take, List.length_singleton]
    omega
   rw [List.map_singleton, e1, e2]
   rfl
  ·rw [if_neg e, if_neg e, if_neg (fun h1 => e ((laE_lt s i (by omega)).2 h1))]
   congr 2
   rw [List.drop_append_of_le_length (by rw [List.length_take]; omega)]
theorem la_out (s : ByteArray) : laO s (s.size + 1) = splitS s ⟨#[46]⟩ := by
 have h := la_split s s.size (Nat.le_refl _)
 rw [size_data s, List.take_length, ← size_data s] at h
 rw [splitS_one, h, laO, if_pos (.inl rfl), List.map_append, List.map_map]
 have e : (laO s s.size).map (mk8 ∘ (·.data.toList)) = laO s s.size := by
  conv => rhs; rw [← List.map_id (laO s s.size)]
  apply List.map_congr_left
  intro a _
  rfl
 rw [e]
 congr 1
 rw [List.map_singleton]
 congr 1
 have hf := laF_le s s.size
 rw [← data_mk8 (s.extract (laF s s.size) s.size), ext_data s _ _ hf (Nat.le_refl _)]
 congr 1
 rw [List.take_of_length_le (by rw [List.length_drop, ← size_data]; omega)]
theorem la_v (s : ByteArray) (hs : s.size ≤ 1000000000) : laV s := by
 unfold laV
 refine ⟨by unfold in64; omega, ⟨⟨0⟩, Nat.zero_le _, rfl, rfl, rfl, rfl, rfl, rfl, rfl, ⟨⟨rfl, rfl, rfl⟩, rfl, fun j hj => absurd hj (by omega)⟩, trivial⟩, ?_⟩
 rintro ⟨i⟩ hi
 have hi : i ≤ s.size + 1 := hi
 have hf := laF_le s i
 have ho := laO_le s i
 refine ⟨fun h => ?_, fun h => ?_⟩
 ·have h : (i : Int) < (s.size : Int) + 1 := of_decide_eq_true h
  refine ⟨fun _ => by dsimp only; omega, fun h2 => ?_, fun h2 => ?_, fun h2 => ?_⟩
  ·have h2 : ¬ (i : Int) = (s.size : Int) := fun e => by
    have h2 : (!(i : Int) == (s.size : Int)) = true := h2
    rw [beq_iff_eq.mpr e] at h2
    cases h2
   dsimp only
   omega
  ·have h3 : laE s i := by
    have h2 : ((i : Int) == (s.size : Int) || sbyte s (i : Int) == 46) = true := h2
    rw [Bool.or_eq_true, beq_iff_eq, beq_iff_eq] at h2
    exact h2
   have e1 : laF s (i + 1) = i + 1 := by rw [laF, if_pos h3]
   have e2 : laO s (i + 1) = laO s i ++ [s.extract (laF s i) i] := by rw [laO, if_pos h3]
   have e3 : (laO s i).length + 1 = (laO s (i + 1)).length := by rw [e2, List.length_append]; rfl
   refine ⟨by omega, by dsimp only; omega, by dsimp only; omega, rfl, by dsimp only; omega, by dsimp only; omega, by unfold in64; dsimp only; omega, by unfold in64; dsimp only; omega, ⟨i + 1⟩, by show i + 1 ≤ s.size + 1; omega, by show s.size + 1 - (i + 1) < s.size + 1 - i; omega, rfl, rfl, rfl, ?_, ?_, rfl, rfl, ⟨⟨rfl, rfl, rfl⟩, e3, fun j hj => ?_⟩, trivial⟩
   ·dsimp only; rw [e3]
   ·dsimp only; rw [e1]; rfl
   ·dsimp only
    rw [e2]
    exact congrArg (fun x => [XT x]) (row_app2 (laO s i) _ ⟨#[]⟩ j hj)
  ·have h3 : ¬ laE s i := fun e => by
    have h2 : ((i : Int) == (s.size : Int) || sbyte s (i : Int) == 46) = false := h2
    unfold laE at e
    rw [← beq_iff_eq (a := (i : Int)), ← beq_iff_eq (a := sbyte s i), ← Bool.or_eq_true, h2] at e
    cases e
   have e1 : laF s (i + 1) = laF s i := by rw [laF, if_neg h3]
   have e2 : laO s (i + 1) = laO s i := by rw [laO, if_neg h3]
   refine ⟨by unfold in64; dsimp only; omega, ⟨i + 1⟩, by show i + 1 ≤ s.size + 1; omega, by show s.size + 1 - (i + 1) < s.size + 1 - i; omega, rfl, rfl, rfl, ?_, ?_, rfl, rfl, ⟨⟨rfl, rfl, rfl⟩, ?_, fun j hj => ?_⟩, trivial⟩
   ·dsimp only; rw [e2]
   ·dsimp only; rw [e1]
   ·dsimp only; rw [e2]
   ·dsimp only; rw [e2]
 ·have h : ¬ (i : Int) < (s.size : Int) + 1 := of_decide_eq_false h
  obtain rfl : i = s.size + 1 := by omega
  exact ⟨rfl, rfl, rfl, fun _ _ => rfl⟩
def lspC : CT := C1 dStr (fun s => [s.size ≤ 1000000000]) fun s => strsL (splitS s ⟨#[46]⟩)
theorem lsp_ok : CTok Tryd.prog 31 lspC := C1_ok cx0_ok Tryd.func31 rfl (by decide) dStr_eq.ok (by kernel_rfl) (fun _ => rfl) fun s hc => by
 rw [← la_out s]
 exact exv (laV_eq s) (la_v s (hc _ (.head _)))
theorem ljF_size (g : Nat → ByteArray) (n : Nat) (h : ∀ i, i < n → (g i).size ≤ 1000000) : ∀ i, i ≤ n → (ljF g i).size ≤ 1000001 * i
 | 0, _ => Nat.le_refl _
 | i + 1, hi => by
  have ih := ljF_size g n h i (by omega)
  have hg := h i (by omega)
  rw [ljF, ByteArray.size_append]
  split
  ·rw [ByteArray.size_append]
   show _ + 1 + _ ≤ _
   omega
  ·omega
theorem lj_v (q : Sq ByteArray) (hn : q.n ≤ 3000) (hq : ∀ i, i < q.n → (q.g i).size ≤ 1000000) : ljV q := by
  unfold ljV
  refine ⟨⟨⟨0⟩, Nat.zero_le _, rfl, rfl, rfl, rfl, rfl, rfl, trivial⟩, ?_⟩
  rintro ⟨i⟩ hi
  have hi : i ≤ q.n := hi
  have hs := ljF_size q.g q.n hq i hi
  refine ⟨fun h => ?_, fun h => ?_⟩
  · have h : (i : Int) < (q.n : Int) := of_decide_eq_true h
    have e : (i : Int).toNat = i := by omega
    have hg := hq i (by omega)
    dsimp only
    rw [e]
    refine ⟨by omega, h, fun h2 => ?_, fun h2 => ?_⟩
    · have h2 : (i : Int) > 0 := of_decide_eq_true h2
      refine ⟨by omega, by rw [ByteArray.size_append]; show _ + 1 + _ ≤ _; omega, by unfold in64; omega, ⟨i + 1⟩, by show i + 1 ≤ q.n; omega, by show q.n - (i + 1) < q.n - i; omega, rfl, rfl, ?_, rfl, rfl, rfl, trivial⟩
      show _ = ljF q.g (i + 1)
      rw [ljF, if_pos (by omega)]
    · have h2 : ¬ (i : Int) > 0 := of_decide_eq_false h2
      refine ⟨by omega, by unfold in64; omega, ⟨i + 1⟩, by show i + 1 ≤ q.n; omega, by show q.n - (i + 1) < q.n - i; omega, rfl, rfl, ?_, rfl, rfl, rfl, trivial⟩
      show _ = ljF q.g (i + 1)
      rw [ljF, if_neg (by omega)]
  · have h : ¬ (i : Int) < (q.n : Int) := of_decide_eq_false h
    obtain rfl : i = q.n := by omega
    rfl
def ljnC : CT := C1 dStrs (fun q => [q.n ≤ 3000, ∀ i, i < q.n → (q.g i).size ≤ 1000000]) fun q => XT (ljF q.g q.n)
theorem ljn_ok : CTok Tryd.prog 42 ljnC := C1_ok cx0_ok Tryd.func42 rfl (by decide) dSl_ok (by kernel_rfl) (fun _ => rfl) fun q hc => exv (ljV_eq q) (lj_v q (hc _ (.head _)) (hc _ (.tail _ (.head _))))
end Go.Proofs.YtaglpckihegmoaaDoorAv
namespace Go.Proofs.YtaglpckihegmoaaDoorAv
open Go Go.RowKit
def badC (r : Int) : Bool := decide (r ≥ 128) && !good r || decide (r < 128) && !rgt (⟨#[97]⟩ ++ Utf8.encode r ++ ⟨#[97]⟩)
def bdN (o : List Int) : Nat → Bool
 | 0 => false
 | i + 1 => bdN o i || badC (o.getD i 0)
def byN (o : List Int) : Nat → Bool
 | 0 => false
 | i + 1 => byN o i || decide (o.getD i 0 ≥ 128)
def xnT : ByteArray := ⟨#[120, 110, 45, 45]⟩
def uniL (o : List Int) : ByteArray × Int :=
 if bdN o o.length then (⟨#[]⟩, 3)
 else if !byN o o.length || o.getD 0 0 == 45 || o.getD (o.length - 1) 0 == 45 then (⟨#[]⟩, 3)
 else (encB o, 0)
def uniR (s : ByteArray) : ByteArray × Int :=
 if (cutPreB s xnT).2 = false then (s, 0)
 else if (decR (cutPreB s xnT).1).2 ≠ 0 then (⟨#[]⟩, (decR (cutPreB s xnT).1).2)
 else uniL (decR (cutPreB s xnT).1).1
def unI (s : ByteArray) : Inv where
 σ := IL
 S := fun x => ⟨[(0, XT s), (6, fzL (decR (cutPreB s xnT).1).1), (8, XB (byN (decR (cutPreB s xnT).1).1 x.i)), (27, fzL (decR (cutPreB s xnT).1).1), (28, XI (decR (cutPreB s xnT).1).1.length), (29, XI x.i)], [], 0, false, []⟩
 inv := fun x => x.i ≤ (decR (cutPreB s xnT).1).1.length ∧ bdN (decR (cutPreB s xnT).1).1 x.i = false ∧ uniL (decR (cutPreB s xnT).1).1 = uniR s
 μ := fun x => (decR (cutPreB s xnT).1).1.length - x.i
def unE (s : ByteArray) : Env := { loops := [(0, unI s)] }
def cxu : Cx := { cx0 with C := [(53, cutPreC), (54, decC), (48, goodC), (44, rgtC)] }
def uniV (s : ByteArray) : Prop :=
 ((!(cutPreB s ⟨#[120, 110, 45, 45]⟩).snd) = true → s = (uniR s).fst ∧ (0 : Int) = (uniR s).snd ∧ True) ∧ ((!(cutPreB s ⟨#[120, 110, 45, 45]⟩).snd) = false → (cutPreB s ⟨#[120, 110, 45, 45]⟩).fst.size ≤ (1000000 : Nat) ∧ (((decR (cutPreB s ⟨#[120, 110, 45, 45]⟩).fst).snd != (0 : Int)) = true → ⟨#[]⟩ = (uniR s).fst ∧ (decR (cutPreB s ⟨#[120, 110, 45, 45]⟩).fst).snd = (uniR s).snd ∧ True) ∧ (((decR (cutPreB s ⟨#[120, 110, 45, 45]⟩).fst).snd != (0 : Int)) = false → (∃ (x : (unI s).σ), (x.i ≤ (decR (cutPreB s ⟨#[120, 110, 45, 45]⟩).fst).fst.length ∧ bdN (decR (cutPreB s ⟨#[120, 110, 45, 45]⟩).fst).fst x.i = false ∧ uniL (decR (cutPreB s ⟨#[120, 110, 45, 45]⟩).fst).fst = uniR s) ∧ true = true ∧ s = s ∧ ((XV.fz (decR (cutPreB s ⟨#[120, 110, 45, 45]⟩).fst).fst.length 1 fun (j : Nat) => [X32 ((decR (cutPreB s ⟨#[120, 110, 45, 45]⟩).fst).fst.getD j 0)]) = XV.fz (decR (cutPreB s ⟨#[120, 110, 45, 45]⟩).fst).fst.length 1 fun (j : Nat) => [X32 ((decR (cutPreB s ⟨#[120, 110, 45, 45]⟩).fst).fst.getD j 0)]) ∧ false = byN (decR (cutPreB s ⟨#[120, 110, 45, 45]⟩).fst).fst x.i ∧ ((XV.fz (decR (cutPreB s ⟨#[120, 110, 45, 45]⟩).fst).fst.length 1 fun (j : Nat) => [X32 ((decR (cutPreB s ⟨#[120, 110, 45, 45]⟩).fst).fst.getD j 0)]) = XV.fz (decR (cutPreB s ⟨#[120, 110, 45, 45]⟩).fst).fst.length 1 fun (j : Nat) => [X32 ((decR (cutPreB s ⟨#[120, 110, 45, 45]⟩).fst).fst.getD j 0)]) ∧ (↑(decR (cutPreB s ⟨#[120, 110, 45, 45]⟩).fst).fst.length : Int) = (↑(decR (cutPreB s ⟨#[120, 110, 45, 45]⟩).fst).fst.length : Int) ∧ (0 : Int) = (↑x.i : Int) ∧ True) ∧ ∀ (x : IL), x.i ≤ (decR (cutPreB s ⟨#[120, 110, 45, 45]⟩).fst).fst.length ∧ bdN (decR (cutPreB s ⟨#[120, 110, 45, 45]⟩).fst).fst x.i = false ∧ uniL (decR (cutPreB s ⟨#[120, 110, 45, 45]⟩).fst).fst = uniR s → (decide ((↑x.i : Int) < (↑(decR (cutPreB s ⟨#[120, 110, 45, 45]⟩).fst).fst.length : Int)) = true → (0 : Int) ≤ (↑x.i : Int) ∧ (↑x.i : Int) < (↑(decR (cutPreB s ⟨#[120, 110, 45, 45]⟩).fst).fst.length : Int) ∧ ((!(decide ((decR (cutPreB s ⟨#[120, 110, 45, 45]⟩).fst).fst.getD (↑x.i : Int).toNat 0 ≥ (128 : Int)) && !good ((decR (cutPreB s ⟨#[120, 110, 45, 45]⟩).fst).fst.getD (↑x.i : Int).toNat 0)) && decide ((decR (cutPreB s ⟨#[120, 110, 45, 45]⟩).fst).fst.getD (↑x.i : Int).toNat 0 < (128 : Int))) = true → (1 : Nat) + (Utf8.encode ((decR (cutPreB s ⟨#[120, 110, 45, 45]⟩).fst).fst.getD (↑x.i : Int).toNat 0)).size ≤ (9223372036854775807 : Nat)) ∧ ((!(decide ((decR (cutPreB s ⟨#[120, 110, 45, 45]⟩).fst).fst.getD (↑x.i : Int).toNat 0 ≥ (128 : Int)) && !good ((decR (cutPreB s ⟨#[120, 110, 45, 45]⟩).fst).fst.getD (↑x.i : Int).toNat 0)) && decide ((decR (cutPreB s ⟨#[120, 110, 45, 45]⟩).fst).fst.getD (↑x.i : Int).toNat 0 < (128 : Int))) = true → (⟨#[97]⟩ ++ Utf8.encode ((decR (cutPreB s ⟨#[120, 110, 45, 45]⟩).fst).fst.getD (↑x.i : Int).toNat 0)).size + (1 : Nat) ≤ (9223372036854775807 : Nat)) ∧ ((!(decide ((decR (cutPreB s ⟨#[120, 110, 45, 45]⟩).fst).fst.getD (↑x.i : Int).toNat 0 ≥ (128 : Int)) && !good ((decR (cutPreB s ⟨#[120, 110, 45, 45]⟩).fst).fst.getD (↑x.i : Int).toNat 0)) && decide ((decR (cutPreB s ⟨#[120, 110, 45, 45]⟩).fst).fst.getD (↑x.i : Int).toNat 0 < (128 : Int))) = true → (⟨#[97]⟩ ++ Utf8.encode ((decR (cutPreB s ⟨#[120, 110, 45, 45]⟩).fst).fst.getD (↑x.i : Int).toNat 0) ++ ⟨#[97]⟩).size ≤ (1000000000 : Nat)) ∧ ((decide ((decR (cutPreB s ⟨#[120, 110, 45, 45]⟩).fst).fst.getD (↑x.i : Int).toNat 0 ≥ (128 : Int)) && !good ((decR (cutPreB s ⟨#[120, 110, 45, 45]⟩).fst).fst.getD (↑x.i : Int).toNat 0) || decide ((decR (cutPreB s ⟨#[120, 110, 45, 45]⟩).fst).fst.getD (↑x.i : Int).toNat 0 < (128 : Int)) && !rgt (⟨#[97]⟩ ++ Utf8.encode ((decR (cutPreB s ⟨#[120, 110, 45, 45]⟩).fst).fst.getD (↑x.i : Int).toNat 0) ++ ⟨#[97]⟩)) = true → ⟨#[]⟩ = (uniR s).fst ∧ (3 : Int) = (uniR s).snd ∧ True) ∧ ((decide ((decR (cutPreB s ⟨#[120, 110, 45, 45]⟩).fst).fst.getD (↑x.i : Int).toNat 0 ≥ (128 : Int)) && !good ((decR (cutPreB s ⟨#[120, 110, 45, 45]⟩).fst).fst.getD (↑x.i : Int).toNat 0) || decide ((decR (cutPreB s ⟨#[120, 110, 45, 45]⟩).fst).fst.getD (↑x.i : Int).toNat 0 < (128 : Int)) && !rgt (⟨#[97]⟩ ++ Utf8.encode ((decR (cutPreB s ⟨#[120, 110, 45, 45]⟩).fst).fst.getD (↑x.i : Int).toNat 0) ++ ⟨#[97]⟩)) = false → in64 ((↑x.i : Int) + (1 : Int)) ∧ ∃ (x' : (unI s).σ), (x'.i ≤ (decR (cutPreB s ⟨#[120, 110, 45, 45]⟩).fst).fst.length ∧ bdN (decR (cutPreB s ⟨#[120, 110, 45, 45]⟩).fst).fst x'.i = false ∧ uniL (decR (cutPreB s ⟨#[120, 110, 45, 45]⟩).fst).fst = uniR s) ∧ (decR (cutPreB s ⟨#[120, 110, 45, 45]⟩).fst).fst.length - x'.i < (decR (cutPreB s ⟨#[120, 110, 45, 45]⟩).fst).fst.length - x.i ∧ true = true ∧ s = s ∧ ((XV.fz (decR (cutPreB s ⟨#[120, 110, 45, 45]⟩).fst).fst.length 1 fun (j : Nat) => [X32 ((decR (cutPreB s ⟨#[120, 110, 45, 45]⟩).fst).fst.getD j 0)]) = XV.fz (decR (cutPreB s ⟨#[120, 110, 45, 45]⟩).fst).fst.length 1 fun (j : Nat) => [X32 ((decR (cutPreB s ⟨#[120, 110, 45, 45]⟩).fst).fst.getD j 0)]) ∧ (byN (decR (cutPreB s ⟨#[120, 110, 45, 45]⟩).fst).fst x.i || decide ((decR (cutPreB s ⟨#[120, 110, 45, 45]⟩).fst).fst.getD (↑x.i : Int).toNat 0 ≥ (128 : Int))) = byN (decR (cutPreB s ⟨#[120, 110, 45, 45]⟩).fst).fst x'.i ∧ ((XV.fz (decR (cutPreB s ⟨#[120, 110, 45, 45]⟩).fst).fst.length 1 fun (j : Nat) => [X32 ((decR (cutPreB s ⟨#[120, 110, 45, 45]⟩).fst).fst.getD j 0)]) = XV.fz (decR (cutPreB s ⟨#[120, 110, 45, 45]⟩).fst).fst.length 1 fun (j : Nat) => [X32 ((decR (cutPreB s ⟨#[120, 110, 45, 45]⟩).fst).fst.getD j 0)]) ∧ (↑(decR (cutPreB s ⟨#[120, 110, 45, 45]⟩).fst).fst.length : Int) = (↑(decR (cutPreB s ⟨#[120, 110, 45, 45]⟩).fst).fst.length : Int) ∧ (↑x.i : Int) + (1 : Int) = (↑x'.i : Int) ∧ True)) ∧ (decide ((↑x.i : Int) < (↑(decR (cutPreB s ⟨#[120, 110, 45, 45]⟩).fst).fst.length : Int)) = false → ((!!byN (decR (cutPreB s ⟨#[120, 110, 45, 45]⟩).fst).fst x.i) = true → (0 : Int) ≤ (0 : Int)) ∧ ((!!byN (decR (cutPreB s ⟨#[120, 110, 45, 45]⟩).fst).fst x.i) = true → (0 : Int) < (↑(decR (cutPreB s ⟨#[120, 110, 45, 45]⟩).fst).fst.length : Int)) ∧ ((!(!byN (decR (cutPreB s ⟨#[120, 110, 45, 45]⟩).fst).fst x.i || (decR (cutPreB s ⟨#[120, 110, 45, 45]⟩).fst).fst.getD ((0 : Nat)) 0 == (45 : Int))) = true → in64 ((↑(decR (cutPreB s ⟨#[120, 110, 45, 45]⟩).fst).fst.length : Int) - (1 : Int))) ∧ ((!(!byN (decR (cutPreB s ⟨#[120, 110, 45, 45]⟩).fst).fst x.i || (decR (cutPreB s ⟨#[120, 110, 45, 45]⟩).fst).fst.getD ((0 : Nat)) 0 == (45 : Int))) = true → (0 : Int) ≤ (↑(decR (cutPreB s ⟨#[120, 110, 45, 45]⟩).fst).fst.length : Int) - (1 : Int)) ∧ ((!(!byN (decR (cutPreB s ⟨#[120, 110, 45, 45]⟩).fst).fst x.i || (decR (cutPreB s ⟨#[120, 110, 45, 45]⟩).fst).fst.getD ((0 : Nat)) 0 == (45 : Int))) = true → (↑(decR (cutPreB s ⟨#[120, 110, 45, 45]⟩).fst).fst.length : Int) - (1 : Int) < (↑(decR (cutPreB s ⟨#[120, 110, 45, 45]⟩).fst).fst.length : Int)) ∧ ((!byN (decR (cutPreB s ⟨#[120, 110, 45, 45]⟩).fst).fst x.i || (decR (cutPreB s ⟨#[120, 110, 45, 45]⟩).fst).fst.getD ((0 : Nat)) 0 == (45 : Int) || (decR (cutPreB s ⟨#[120, 110, 45, 45]⟩).fst).fst.getD ((↑(decR (cutPreB s ⟨#[120, 110, 45, 45]⟩).fst).fst.length : Int) - (1 : Int)).toNat 0 == (45 : Int)) = true → ⟨#[]⟩ = (uniR s).fst ∧ (3 : Int) = (uniR s).snd ∧ True) ∧ ((!byN (decR (cutPreB s ⟨#[120, 110, 45, 45]⟩).fst).fst x.i || (decR (cutPreB s ⟨#[120, 110, 45, 45]⟩).fst).fst.getD ((0 : Nat)) 0 == (45 : Int) || (decR (cutPreB s ⟨#[120, 110, 45, 45]⟩).fst).fst.getD ((↑(decR (cutPreB s ⟨#[120, 110, 45, 45]⟩).fst).fst.length : Int) - (1 : Int)).toNat 0 == (45 : Int)) = false → (∀ (j : Nat), j < (decR (cutPreB s ⟨#[120, 110, 45, 45]⟩).fst).fst.length → [X32 ((decR (cutPreB s ⟨#[120, 110, 45, 45]⟩).fst).fst.getD j 0)] = [X32 (Option.rec 0 (fun (val : Int) => val) (decR (cutPreB s ⟨#[120, 110, 45, 45]⟩).fst).fst[j]?)]) ∧ (encT (decR (cutPreB s ⟨#[120, 110, 45, 45]⟩).fst).fst.length fun (j : Nat) => Option.rec 0 (fun (val : Int) => val) (decR (cutPreB s ⟨#[120, 110, 45, 45]⟩).fst).fst[j]?) = (uniR s).fst ∧ (0 : Int) = (uniR s).snd ∧ True))))
theorem uniV_eq (s : ByteArray) : uniV s = (funC cxu Tryd.f46 (mkSc (unE s) (bodyOf Tryd.f46)) [XT s] (.tup [XT (uniR s).1, XI (uniR s).2])) := by kernel_rfl
def rnG (s : ByteArray) : Nat → Nat → List Int
 | 0, _ => []
 | f + 1, p => if p < s.size then ((Utf8.decode s p).1 : Int) :: rnG s f (p + (Utf8.decode s p).2) else []
def rns (s : ByteArray) : List Int := rnG s s.size 0
def rnK (acc : List Int) (s : ByteArray) (f p : Nat) : List Int := acc ++ rnG s f p
def ascL (l : List Int) : ByteArray × Int :=
 if bdN l l.length then (⟨#[]⟩, 1)
 else if l.getD 0 0 == 45 || l.getD (l.length - 1) 0 == 45 then (⟨#[]⟩, 1)
 else if (encR (fun j => l.getD j 0) l.length).2 ≠ 0 then (⟨#[]⟩, (encR (fun j => l.getD j 0) l.length).2)
 else if (xnT ++ txtO (encR (fun j => l.getD j 0) l.length).1).size > 63 then (⟨#[]⟩, 2)
 else (xnT ++ txtO (encR (fun j => l.getD j 0) l.length).1, 0)
def ascS (s : ByteArray) : ByteArray × Int :=
 if pla s s.size then
  if rgt s = false then (⟨#[]⟩, 1)
  else if hasPreB s xnT then (s, (uniR s).2) else (s, 0)
 else if validB s = false then (⟨#[]⟩, 1)
 else ascL (rns s)
def ascR (s : ByteArray) : ByteArray × Int := ascS (lowT s)
structure AS where
 f : Nat
 p : Nat
 l : List Int
def asI (s : ByteArray) : Inv where
 σ := AS
 S := fun x => ⟨[(0, XT (lowT s)), (6, .sl 0 1 0 x.l.length), (32, .ptr 1 0 0 0)], [(0, rowR x.l), (1, .it (lowT s) x.p)], 2, false, []⟩
 inv := fun x => rnK x.l (lowT s) x.f x.p = rns (lowT s) ∧ bdN x.l x.l.length = false ∧ (lowT s).size ≤ x.p + x.f ∧ x.l.length ≤ x.p ∧ x.l.length + x.f = (lowT s).size ∧ (∀ y ∈ x.l, 0 ≤ y ∧ y ≤ 1114111) ∧ (x.l.length = 0 → x.p = 0) ∧ ascL (rns (lowT s)) = ascR s
 μ := fun x => x.f
def asE (s : ByteArray) : Env := { loops := [(0, asI s)], own := [(12, [(6, 21, 1)])], frz := [(18, [6])] }
def uniC : CT := C1 dStr (fun s => [s.size ≤ 1000000]) fun s => .tup [XT (uniR s).1, XI (uniR s).2]
def cxa : Cx := { cx0 with C := [(32, lowC), (43, plaC), (44, rgtC), (45, hasPreC), (46, uniC), (47, validC), (48, goodC), (49, encC)] }
def ascV (s : ByteArray) : Prop :=
 s.size ≤ (1000000000 : Nat) ∧ (lowT s).size ≤ (1000000000 : Nat) ∧ (pla (lowT s) (lowT s).size = true → (lowT s).size ≤ (1000000000 : Nat) ∧ ((!rgt (lowT s)) = true → ⟨#[]⟩ = (ascR s).fst ∧ (1 : Int) = (ascR s).snd ∧ True) ∧ ((!rgt (lowT s)) = false → (hasPreB (lowT s) ⟨#[120, 110, 45, 45]⟩ = true → (lowT s).size ≤ (1000000 : Nat) ∧ lowT s = (ascR s).fst ∧ (uniR (lowT s)).snd = (ascR s).snd ∧ True) ∧ (hasPreB (lowT s) ⟨#[120, 110, 45, 45]⟩ = false → lowT s = (ascR s).fst ∧ (0 : Int) = (ascR s).snd ∧ True))) ∧ (pla (lowT s) (lowT s).size = false → (lowT s).size ≤ (1000000000 : Nat) ∧ ((!validB (lowT s)) = true → ⟨#[]⟩ = (ascR s).fst ∧ (1 : Int) = (ascR s).snd ∧ True) ∧ ((!validB (lowT s)) = false → (∃ (x : (asI s).σ), (rnK x.l (lowT s) x.f x.p = rns (lowT s) ∧ bdN x.l x.l.length = false ∧ (lowT s).size ≤ x.p + x.f ∧ x.l.length ≤ x.p ∧ x.l.length + x.f = (lowT s).size ∧ (∀ (y : Int), y ∈ x.l → (0 : Int) ≤ y ∧ y ≤ (1114111 : Int)) ∧ (x.l.length = (0 : Nat) → x.p = (0 : Nat)) ∧ ascL (rns (lowT s)) = ascR s) ∧ true = true ∧ lowT s = lowT s ∧ XV.sl 0 1 0 0 = XV.sl 0 1 0 x.l.length ∧ XV.ptr ((0 : Nat) + (1 : Nat)) 0 0 0 = XV.ptr 1 0 0 0 ∧ (((21 : Nat) = (21 : TypeId) ∧ true = true ∧ (1 : Nat) = (1 : Nat)) ∧ (0 : Nat) = x.l.length ∧ ∀ (j : Nat), j < (0 : Nat) → [] = [X32 (x.l.getD j 0)]) ∧ (lowT s = lowT s ∧ (0 : Nat) = x.p) ∧ True) ∧ ∀ (x : AS), rnK x.l (lowT s) x.f x.p = rns (lowT s) ∧ bdN x.l x.l.length = false ∧ (lowT s).size ≤ x.p + x.f ∧ x.l.length ≤ x.p ∧ x.l.length + x.f = (lowT s).size ∧ (∀ (y : Int), y ∈ x.l → (0 : Int) ≤ y ∧ y ≤ (1114111 : Int)) ∧ (x.l.length = (0 : Nat) → x.p = (0 : Nat)) ∧ ascL (rns (lowT s)) = ascR s → (x.p < (lowT s).size → (true = true → ((!(decide ((↑(Utf8.decode (lowT s) x.p).fst : Int) ≥ (128 : Int)) && !good (↑(Utf8.decode (lowT s) x.p).fst : Int)) && decide ((↑(Utf8.decode (lowT s) x.p).fst : Int) < (128 : Int))) = true → (1 : Nat) + (Utf8.encode (↑(Utf8.decode (lowT s) x.p).fst : Int)).size ≤ (9223372036854775807 : Nat)) ∧ ((!(decide ((↑(Utf8.decode (lowT s) x.p).fst : Int) ≥ (128 : Int)) && !good (↑(Utf8.decode (lowT s) x.p).fst : Int)) && decide ((↑(Utf8.decode (lowT s) x.p).fst : Int) < (128 : Int))) = true → (⟨#[97]⟩ ++ Utf8.encode (↑(Utf8.decode (lowT s) x.p).fst : Int)).size + (1 : Nat) ≤ (9223372036854775807 : Nat)) ∧ ((!(decide ((↑(Utf8.decode (lowT s) x.p).fst : Int) ≥ (128 : Int)) && !good (↑(Utf8.decode (lowT s) x.p).fst : Int)) && decide ((↑(Utf8.decode (lowT s) x.p).fst : Int) < (128 : Int))) = true → (⟨#[97]⟩ ++ Utf8.encode (↑(Utf8.decode (lowT s) x.p).fst : Int) ++ ⟨#[97]⟩).size ≤ (1000000000 : Nat)) ∧ ((decide ((↑(Utf8.decode (lowT s) x.p).fst : Int) ≥ (128 : Int)) && !good (↑(Utf8.decode (lowT s) x.p).fst : Int) || decide ((↑(Utf8.decode (lowT s) x.p).fst : Int) < (128 : Int)) && !rgt (⟨#[97]⟩ ++ Utf8.encode (↑(Utf8.decode (lowT s) x.p).fst : Int) ++ ⟨#[97]⟩)) = true → ⟨#[]⟩ = (ascR s).fst ∧ (1 : Int) = (ascR s).snd ∧ True) ∧ ((decide ((↑(Utf8.decode (lowT s) x.p).fst : Int) ≥ (128 : Int)) && !good (↑(Utf8.decode (lowT s) x.p).fst : Int) || decide ((↑(Utf8.decode (lowT s) x.p).fst : Int) < (128 : Int)) && !rgt (⟨#[97]⟩ ++ Utf8.encode (↑(Utf8.decode (lowT s) x.p).fst : Int) ++ ⟨#[97]⟩)) = false → x.l.length = x.l.length ∧ (x.l.length + (1 : Nat)) * (4 : Nat) ≤ (140737488355328 : Nat) ∧ x.l.length + (1 : Nat) ≤ (140737488355328 : Nat) ∧ ∃ (x' : (asI s).σ), (rnK x'.l (lowT s) x'.f x'.p = rns (lowT s) ∧ bdN x'.l x'.l.length = false ∧ (lowT s).size ≤ x'.p + x'.f ∧ x'.l.length ≤ x'.p ∧ x'.l.length + x'.f = (lowT s).size ∧ (∀ (y : Int), y ∈ x'.l → (0 : Int) ≤ y ∧ y ≤ (1114111 : Int)) ∧ (x'.l.length = (0 : Nat) → x'.p = (0 : Nat)) ∧ ascL (rns (lowT s)) = ascR s) ∧ x'.f < x.f ∧ true = true ∧ lowT s = lowT s ∧ XV.sl 0 1 0 (x.l.length + (1 : Nat)) = XV.sl 0 1 0 x'.l.length ∧ XV.ptr 1 0 0 0 = XV.ptr 1 0 0 0 ∧ (((21 : TypeId) = (21 : TypeId) ∧ true = true ∧ (1 : Nat) = (1 : Nat)) ∧ x.l.length + (1 : Nat) = x'.l.length ∧ ∀ (j : Nat), j < x.l.length + (1 : Nat) → [Bool.rec (X32 (↑(Utf8.decode (lowT s) x.p).fst : Int)) (X32 (x.l.getD j 0)) (j.blt x.l.length)] = [X32 (x'.l.getD j 0)]) ∧ (lowT s = lowT s ∧ x.p + (Utf8.decode (lowT s) x.p).snd = x'.p) ∧ True)) ∧ (true = false → x.l.length = x.l.length ∧ (0 : Int) ≤ (0 : Int) ∧ (0 : Int) < (↑x.l.length : Int) ∧ ((!x.l.getD ((0 : Nat)) 0 == (45 : Int)) = true → in64 ((↑x.l.length : Int) - (1 : Int))) ∧ ((!x.l.getD ((0 : Nat)) 0 == (45 : Int)) = true → (0 : Int) ≤ (↑x.l.length : Int) - (1 : Int)) ∧ ((!x.l.getD ((0 : Nat)) 0 == (45 : Int)) = true → (↑x.l.length : Int) - (1 : Int) < (↑x.l.length : Int)) ∧ ((x.l.getD ((0 : Nat)) 0 == (45 : Int) || x.l.getD ((↑x.l.length : Int) - (1 : Int)).toNat 0 == (45 : Int)) = true → ⟨#[]⟩ = (ascR s).fst ∧ (1 : Int) = (ascR s).snd ∧ True) ∧ ((x.l.getD ((0 : Nat)) 0 == (45 : Int) || x.l.getD ((↑x.l.length : Int) - (1 : Int)).toNat 0 == (45 : Int)) = false → (∀ (i : Nat), i < x.l.length → [X32 (x.l.getD i 0)] = [X32 (Option.rec 0 (fun (val : Int) => val) x.l[i]?)]) ∧ x.l.length ≤ (2000 : Nat) ∧ (∀ (i : Nat), i < x.l.length → (0 : Int) ≤ Option.rec 0 (fun (val : Int) => val) x.l[i]? ∧ Option.rec 0 (fun (val : Int) => val) x.l[i]? ≤ (1114111 : Int)) ∧ (((encR (fun (i : Nat) => Option.rec 0 (fun (val : Int) => val) x.l[i]?) x.l.length).snd != (0 : Int)) = true → ⟨#[]⟩ = (ascR s).fst ∧ (encR (fun (i : Nat) => Option.rec 0 (fun (val : Int) => val) x.l[i]?) x.l.length).snd = (ascR s).snd ∧ True) ∧ (((encR (fun (i : Nat) => Option.rec 0 (fun (val : Int) => val) x.l[i]?) x.l.length).snd != (0 : Int)) = false → (4 : Nat) + (txtO (encR (fun (i : Nat) => Option.rec 0 (fun (val : Int) => val) x.l[i]?) x.l.length).fst).size ≤ (9223372036854775807 : Nat) ∧ (decide ((↑(⟨#[120, 110, 45, 45]⟩ ++ txtO (encR (fun (i : Nat) => Option.rec 0 (fun (val : Int) => val) x.l[i]?) x.l.length).fst).size : Int) > (63 : Int)) = true → ⟨#[]⟩ = (ascR s).fst ∧ (2 : Int) = (ascR s).snd ∧ True) ∧ (decide ((↑(⟨#[120, 110, 45, 45]⟩ ++ txtO (encR (fun (i : Nat) => Option.rec 0 (fun (val : Int) => val) x.l[i]?) x.l.length).fst).size : Int) > (63 : Int)) = false → (4 : Nat) + (txtO (encR (fun (i : Nat) => Option.rec 0 (fun (val : Int) => val) x.l[i]?) x.l.length).fst).size ≤ (9223372036854775807 : Nat) ∧ ⟨#[120, 110, 45, 45]⟩ ++ txtO (encR (fun (i : Nat) => Option.rec 0 (fun (val : Int) => val) x.l[i]?) x.l.length).fst = (ascR s).fst ∧ (0 : Int) = (ascR s).snd ∧ True))))) ∧ ((lowT s).size ≤ x.p → (false = true → False) ∧ (false = false → x.l.length = x.l.length ∧ (0 : Int) ≤ (0 : Int) ∧ (0 : Int) < (↑x.l.length : Int) ∧ ((!x.l.getD ((0 : Nat)) 0 == (45 : Int)) = true → in64 ((↑x.l.length : Int) - (1 : Int))) ∧ ((!x.l.getD ((0 : Nat)) 0 == (45 : Int)) = true → (0 : Int) ≤ (↑x.l.length : Int) - (1 : Int)) ∧ ((!x.l.getD ((0 : Nat)) 0 == (45 : Int)) = true → (↑x.l.length : Int) - (1 : Int) < (↑x.l.length : Int)) ∧ ((x.l.getD ((0 : Nat)) 0 == (45 : Int) || x.l.getD ((↑x.l.length : Int) - (1 : Int)).toNat 0 == (45 : Int)) = true → ⟨#[]⟩ = (ascR s).fst ∧ (1 : Int) = (ascR s).snd ∧ True) ∧ ((x.l.getD ((0 : Nat)) 0 == (45 : Int) || x.l.getD ((↑x.l.length : Int) - (1 : Int)).toNat 0 == (45 : Int)) = false → (∀ (i : Nat), i < x.l.length → [X32 (x.l.getD i 0)] = [X32 (Option.rec 0 (fun (val : Int) => val) x.l[i]?)]) ∧ x.l.length ≤ (2000 : Nat) ∧ (∀ (i : Nat), i < x.l.length → (0 : Int) ≤ Option.rec 0 (fun (val : Int) => val) x.l[i]? ∧ Option.rec 0 (fun (val : Int) => val) x.l[i]? ≤ (1114111 : Int)) ∧ (((encR (fun (i : Nat) => Option.rec 0 (fun (val : Int) => val) x.l[i]?) x.l.length).snd != (0 : Int)) = true → ⟨#[]⟩ = (ascR s).fst ∧ (encR (fun (i : Nat) => Option.rec 0 (fun (val : Int) => val) x.l[i]?) x.l.length).snd = (ascR s).snd ∧ True) ∧ (((encR (fun (i : Nat) => Option.rec 0 (fun (val : Int) => val) x.l[i]?) x.l.length).snd != (0 : Int)) = false → (4 : Nat) + (txtO (encR (fun (i : Nat) => Option.rec 0 (fun (val : Int) => val) x.l[i]?) x.l.length).fst).size ≤ (9223372036854775807 : Nat) ∧ (decide ((↑(⟨#[120, 110, 45, 45]⟩ ++ txtO (encR (fun (i : Nat) => Option.rec 0 (fun (val : Int) => val) x.l[i]?) x.l.length).fst).size : Int) > (63 : Int)) = true → ⟨#[]⟩ = (ascR s).fst ∧ (2 : Int) = (ascR s).snd ∧ True) ∧ (decide ((↑(⟨#[120, 110, 45, 45]⟩ ++ txtO (encR (fun (i : Nat) => Option.rec 0 (fun (val : Int) => val) x.l[i]?) x.l.length).fst).size : Int) > (63 : Int)) = false → (4 : Nat) + (txtO (encR (fun (i : Nat) => Option.rec 0 (fun (val : Int) => val) x.l[i]?) x.l.length).fst).size ≤ (9223372036854775807 : Nat) ∧ ⟨#[120, 110, 45, 45]⟩ ++ txtO (encR (fun (i : Nat) => Option.rec 0 (fun (val : Int) => val) x.l[i]?) x.l.length).fst = (ascR s).fst ∧ (0 : Int) = (ascR s).snd ∧ True)))))))
theorem ascV_eq (s : ByteArray) : ascV s = (funC cxa Tryd.f37 (mkSc (asE s) (bodyOf Tryd.f37)) [XT s] (.tup [XT (ascR s).1, XI (ascR s).2])) := by kernel_rfl
theorem enc8_size (r : Int) : (Utf8.encode r).size ≤ 4 := by
 unfold Utf8.encode
 generalize (if Utf8.valid r = true then r.toNat else Utf8.runeError) = c
 dsimp only
 split
 ·exact (by decide : 1 ≤ 4)
 ·split
  ·exact (by decide : 2 ≤ 4)
  ·split
   ·exact (by decide : 3 ≤ 4)
   ·exact Nat.le_refl 4
theorem dec8_rng (s : ByteArray) (p : Nat) : (Utf8.decode s p).1 ≤ 1114111 ∧ 1 ≤ (Utf8.decode s p).2 := by
 have hb : ∀ k, (s.get! k).toNat < 256 := fun k => UInt8.toNat_lt _
 have hv : ∀ c : Nat, Utf8.valid c = true → c ≤ 1114111 := fun c h => by
  unfold Utf8.valid at h
  simp only [Bool.or_eq_true, Bool.and_eq_true, decide_eq_true_eq] at h
  omega
 unfold Utf8.decode
 dsimp only
 have h0 := hb p
 have h1 := hb (p + 1)
 have h2 := hb (p + 2)
 split
 ·exact ⟨by dsimp only; omega, Nat.le_refl _⟩
 split
 ·split
  ·exact ⟨by dsimp only; omega, by dsimp only; omega⟩
  ·exact ⟨by decide, by decide⟩
 split
 ·split
  ·exact ⟨by dsimp only; omega, by dsimp only; omega⟩
  ·exact ⟨by decide, by decide⟩
 split
 ·split
  ·rename_i h
   simp only [Bool.and_eq_true, decide_eq_true_eq] at h
   exact ⟨hv _ h.2, by dsimp only; omega⟩
  ·exact ⟨by decide, by decide⟩
 exact ⟨by decide, by decide⟩
theorem txtOf_size (n : Nat) (f : Nat → UInt8) : (txtOf n f).size = n := by
 unfold txtOf ofBytes
 show ((List.range n).map f).length = n
 simp
theorem lowT_size (s : ByteArray) : (lowT s).size = s.size := txtOf_size _ _
theorem cutPre_size (s p : ByteArray) : (cutPreB s p).1.size ≤ s.size := by
 unfold cutPreB
 rw [mk8_size, size_data, Lib.trimPrefix]
 split
 ·rw [List.length_drop]; omega
 ·exact Nat.le_refl _
theorem bdN_succ {o : List Int} {i : Nat} (h : bdN o i = false) (h1 : badC (o.getD i 0) = false) : bdN o (i + 1) = false := by rw [bdN, h, h1]; rfl
theorem bdN_le (o : List Int) (i : Nat) : ∀ n, i ≤ n → bdN o i = true → bdN o n = true
  | 0, h, k => by obtain rfl : i = 0 := by omega
                  exact k
  | n + 1, h, k => by
    by_cases e : i = n + 1
    · rw [← e]; exact k
    · rw [bdN, bdN_le o i n (by omega) k]; rfl
theorem pair_eq {α β : Type} {x : α × β} {a : α} {b : β} (h : x = (a, b)) : a = x.1 ∧ b = x.2 ∧ True := by rw [h]; exact ⟨rfl, rfl, trivial⟩
theorem dnG_len (b : Int) : ∀ (l : List UInt8) (i w k : Int) (l' : List UInt8) (j : Int), dnG b l i w k = some (l', j) → l'.length < l.length
 | [], i, w, k, l', j, h => by simp [dnG] at h
 | c :: l, i, w, k, l', j, h => by
  rw [dnG] at h
  split at h
  ·cases h
  ·split at h
   ·simp only [Option.some.injEq, Prod.mk.injEq] at h
    rw [← h.1]; exact Nat.lt_succ_self _
   ·have := dnG_len b l _ _ _ l' j h
    simp only [List.length_cons]; omega
theorem dcG_len : ∀ (f : Nat) (l : List UInt8) (n i b : Int) (o o' : List Int), dcG f l n i b o = some o' → o'.length ≤ o.length + l.length
 | f, [], n, i, b, o, o', h => by
  have : dcG f [] n i b o = some o := by cases f <;> rfl
  rw [this] at h
  obtain rfl := Option.some.inj h
  omega
 | 0, c :: l, n, i, b, o, o', h => by simp [dcG] at h
 | f + 1, c :: l, n, i, b, o, o', h => by
  rw [dcG_cons] at h
  cases hd : dnG b (c :: l) i 1 36 with
  | none => rw [hd] at h; cases h
  | some r =>
   obtain ⟨l', j⟩ := r
   rw [hd, dcN] at h
   split at h
   ·cases h
   ·have h1 := dnG_len _ _ _ _ _ _ _ hd
    have h2 := dcG_len f l' _ _ _ _ o' h
    rw [List.length_append, List.length_cons, List.length_take, List.length_drop] at h2
    omega
theorem decR_len (s : ByteArray) : (decR s).1.length ≤ 126 := by
 rw [decR]
 split
 ·simp
 ·rename_i h63
  split
  ·simp
  ·have hk : ∀ r, (decK s r).1.length ≤ 126 ∨ ∃ o, r = some o ∧ (decK s r).1 = o := by
    intro r
    cases r with
    | none => left; simp [decK]
    | some o =>
     rw [decK]
     split
     ·left; simp
     ·right; exact ⟨o, rfl, rfl⟩
   rcases hk (dcG (s.size + 1) (lst s (lastB s 45 + 1).toNat) 128 0 72 (preL s (imax (lastB s 45) 0).toNat)) with h | ⟨o, h1, h2⟩
   ·exact h
   ·rw [h2]
    have := dcG_len _ _ _ _ _ _ _ h1
    have e1 : (preL s (imax (lastB s 45) 0).toNat).length ≤ s.size := by
     unfold preL
     rw [List.length_map, List.length_take, ← size_data]; omega
    have e2 : (lst s (lastB s 45 + 1).toNat).length ≤ s.size := by
     unfold lst
     rw [List.length_drop, ← size_data]; omega
    omega
theorem uni_v (s : ByteArray) (hs : s.size ≤ 1000000) : uniV s := by
 have hsz := cutPre_size s xnT
 unfold uniV
 rw [show (⟨#[120, 110, 45, 45]⟩ : ByteArray) = xnT from rfl]
 refine ⟨fun h => ?_, fun h => ?_⟩
 ·have h : (cutPreB s xnT).2 = false := by simpa using h
  exact pair_eq (by rw [uniR, if_pos h])
 have h0 : ¬ (cutPreB s xnT).2 = false := by simpa using h
 clear h
 refine ⟨by omega, fun h => ?_, fun h => ?_⟩
 ·have h : (decR (cutPreB s xnT).1).2 ≠ 0 := by simpa using h
  exact pair_eq (by rw [uniR, if_neg h0, if_pos h])
 have h1 : ¬ (decR (cutPreB s xnT).1).2 ≠ 0 := by simpa using h
 clear h
 have hU : uniL (decR (cutPreB s xnT).1).1 = uniR s := by rw [uniR, if_neg h0, if_neg h1]
 refine ⟨⟨⟨0⟩, ⟨Nat.zero_le _, rfl, hU⟩, rfl, rfl, rfl, rfl, rfl, rfl, rfl, trivial⟩, ?_⟩
 have hol := decR_len (cutPreB s xnT).1
 generalize (decR (cutPreB s xnT).1).1 = o at *
 rintro ⟨i⟩ ⟨hi, hb, -⟩
 have hi : i ≤ o.length := hi
 have hb : bdN o i = false := hb
 dsimp only
 refine ⟨fun h => ?_, fun h => ?_⟩
 ·have h : (i : Int) < o.length := of_decide_eq_true h
  have he := enc8_size (o.getD i 0)
  rw [Int.toNat_natCast]
  refine ⟨by omega, h, fun _ => by omega, fun _ => by rw [ByteArray.size_append]; show 1 + _ + 1 ≤ _; omega, fun _ => by rw [ByteArray.size_append, ByteArray.size_append]; show 1 + _ + 1 ≤ _; omega, fun h1 => ?_, fun h1 => ?_⟩
  ·have h1 : badC (o.getD i 0) = true := h1
   exact pair_eq (by rw [← hU, uniL, if_pos]; exact bdN_le o (i + 1) _ (by omega) (by rw [bdN, h1, Bool.or_true]))
  ·have h1 : badC (o.getD i 0) = false := h1
   exact ⟨by unfold in64; omega, ⟨i + 1⟩, ⟨by show i + 1 ≤ o.length; omega, bdN_succ hb h1, hU⟩, by show o.length - (i + 1) < o.length - i; omega, rfl, rfl, rfl, rfl, rfl, rfl, rfl, trivial⟩
 have h : ¬ (i : Int) < o.length := of_decide_eq_false h
 obtain rfl : i = o.length := by omega
 have hpos : byN o o.length = true → 0 < o.length := fun h => by
  cases o with
  | nil => cases h
  | cons _ _ => exact Nat.succ_pos _
 have hp2 : ∀ c, (!(!byN o o.length || c)) = true → 0 < o.length := fun c h => hpos (by simp at h; exact h.1)
 have ei : ((o.length : Int) - 1).toNat = o.length - 1 := by omega
 rw [ei]
 refine ⟨fun _ => Int.le_refl _, fun h => ?_, fun h => ?_, fun h => ?_, fun _ => by omega, fun h => ?_, fun h => ?_⟩
 ·have := hpos (by simpa using h); omega
 ·have := hp2 _ h; unfold in64; omega
 ·have := hp2 _ h; omega
 ·exact pair_eq (by rw [← hU, uniL, if_neg (by rw [hb]; simp), if_pos h])
 ·refine ⟨fun j _ => congrArg (fun z => [X32 z]) (getD_rec o j), ?_⟩
  have hA : (fun j : Nat => Option.rec (motive := fun _ => Int) 0 (fun v => v) o[j]?) = fun j => o.getD j 0 := by
   funext j; exact (getD_rec o j).symm
  have hE : encT o.length (fun j => Option.rec (motive := fun _ => Int) 0 (fun v => v) o[j]?) = encB o := by
   rw [hA, encT]
   congr 1
   apply List.ext_getElem?
   intro j
   rw [List.getElem?_map]
   by_cases hj : j < o.length
   ·rw [List.getElem?_range hj, List.getElem?_eq_getElem hj]
    simp only [Option.map_some]
    rw [List.getD_eq_getElem?_getD, List.getElem?_eq_getElem hj]
    rfl
   ·rw [List.getElem?_eq_none (by simpa using hj), List.getElem?_eq_none (by omega)]
    rfl
  have := pair_eq (x := uniR s) (a := encB o) (b := 0) (by rw [← hU, uniL, if_neg (by rw [hb]; simp), if_neg (by rw [h]; simp)])
  exact ⟨hE.trans this.1, this.2⟩
theorem cxu_ok : cxu.ok Tryd.prog := (((cx0_ok.addC rgt_ok).addC good_ok).addC dec_ok).addC cutPre_ok
theorem uni_ok : CTok Tryd.prog 46 uniC := C1_ok cxu_ok Tryd.func46 rfl (by decide) dStr_eq.ok (by kernel_rfl) (fun _ => rfl) fun s hc => exv (uniV_eq s) (uni_v s (hc _ (by simp)))
theorem cxa_ok : cxa.ok Tryd.prog := (((((((cx0_ok.addC enc_ok).addC good_ok).addC valid_ok).addC uni_ok).addC hasPre_ok).addC rgt_ok).addC pla_ok).addC low_ok
theorem rnG_yes {s : ByteArray} {f p : Nat} (h : p < s.size) : rnG s (f + 1) p = ((Utf8.decode s p).1 : Int) :: rnG s f (p + (Utf8.decode s p).2) := by rw [rnG, if_pos h]
theorem rnG_no {s : ByteArray} {f p : Nat} (h : ¬ p < s.size) : rnG s f p = [] := by
 cases f with
 | zero => rfl
 | succ f => rw [rnG, if_neg h]
theorem bdN_app (o l : List Int) : ∀ i, i ≤ o.length → bdN (o ++ l) i = bdN o i
 | 0, _ => rfl
 | i + 1, h => by
  rw [bdN, bdN, bdN_app o l i (by omega)]
  congr 2
  rw [List.getD_eq_getElem?_getD, List.getD_eq_getElem?_getD, List.getElem?_append_left (by omega)]
theorem bdN_snoc (o : List Int) (r : Int) : bdN (o ++ [r]) (o ++ [r]).length = (bdN o o.length || badC r) := by
 rw [List.length_append, List.length_singleton, bdN, bdN_app o [r] o.length (Nat.le_refl _)]
 congr 2
 rw [List.getD_eq_getElem?_getD]
 simp
theorem pla_pos (s : ByteArray) (h : pla s s.size = false) : 0 < s.size := by
 cases hs : s.size with
 | zero => rw [hs] at h; cases h
 | succ n => exact Nat.succ_pos _
theorem asc_v (s : ByteArray) (hs : s.size ≤ 2000) : ascV s := by
 have hls := lowT_size s
 unfold ascV
 rw [show (⟨#[120, 110, 45, 45]⟩ : ByteArray) = xnT from rfl]
 have hR : ascR s = ascS (lowT s) := rfl
 generalize hr : ascR s = res at *
 generalize lowT s = t at *
 refine ⟨by omega, by omega, fun hp => ⟨by omega, fun h => ?_, fun h => ⟨fun h2 => ⟨by omega, ?_⟩, fun h2 => ?_⟩⟩, fun hp => ⟨by omega, fun h => ?_, fun h => ?_⟩⟩
 ·have h : rgt t = false := by simpa using h
  exact pair_eq (by rw [hR, ascS, if_pos hp, if_pos h])
 ·have h : ¬ rgt t = false := by simpa using h
  exact pair_eq (by rw [hR, ascS, if_pos hp, if_neg h, if_pos h2])
 ·have h : ¬ rgt t = false := by simpa using h
  exact pair_eq (by rw [hR, ascS, if_pos hp, if_neg h, if_neg (by rw [h2]; decide)])
 ·have h : validB t = false := by simpa using h
  exact pair_eq (by rw [hR, ascS, if_neg (by rw [hp]; decide), if_pos h])
 have hv : ¬ validB t = false := by simpa using h
 clear h
 have hL : ascL (rns t) = res := by rw [hR, ascS, if_neg (by rw [hp]; decide), if_neg hv]
 have hpos := pla_pos t hp
 refine ⟨⟨⟨t.size, 0, []⟩, ⟨rfl, rfl, by show t.size ≤ 0 + t.size; omega, Nat.le_refl _, by show 0 + t.size = t.size; omega, fun y hy => by simp at hy, fun _ => rfl, hL⟩, rfl, rfl, rfl, rfl, ⟨⟨rfl, rfl, rfl⟩, rfl, fun j hj => absurd hj (Nat.not_lt_zero _)⟩, ⟨rfl, rfl⟩, trivial⟩, ?_⟩
 rintro ⟨f, p, l⟩ ⟨i1, i2, i3, i4, i5, i6, i7, -⟩
 dsimp only at i1 i2 i3 i4 i5 i6 i7
 dsimp only
 have hA : (fun i : Nat => Option.rec (motive := fun _ => Int) 0 (fun v => v) l[i]?) = fun j => l.getD j 0 := by
  funext j; exact (getD_rec l j).symm
 have fin : ¬ p < t.size → l.length = l.length ∧ (0 : Int) ≤ 0 ∧ (0 : Int) < l.length ∧ ((!l.getD 0 0 == 45) = true → in64 ((l.length : Int) - 1)) ∧ ((!l.getD 0 0 == 45) = true → (0 : Int) ≤ (l.length : Int) - 1) ∧ ((!l.getD 0 0 == 45) = true → (l.length : Int) - 1 < l.length) ∧
   ((l.getD 0 0 == 45 || l.getD ((l.length : Int) - 1).toNat 0 == 45) = true → (⟨#[]⟩ : ByteArray) = res.1 ∧ 1 = res.2 ∧ True) ∧
   ((l.getD 0 0 == 45 || l.getD ((l.length : Int) - 1).toNat 0 == 45) = false → (∀ i : Nat, i < l.length → ([X32 (l.getD i 0)] : List XV) = [X32 (Option.rec (motive := fun _ => Int) 0 (fun v => v) l[i]?)]) ∧ l.length ≤ 2000 ∧
    (∀ i : Nat, i < l.length → 0 ≤ (Option.rec (motive := fun _ => Int) 0 (fun v => v) l[i]? : Int) ∧ (Option.rec (motive := fun _ => Int) 0 (fun v => v) l[i]? : Int) ≤ 1114111) ∧
    (((encR (fun j => l.getD j 0) l.length).2 != 0) = true → (⟨#[]⟩ : ByteArray) = res.1 ∧ (encR (fun j => l.getD j 0) l.length).2 = res.2 ∧ True) ∧
    (((encR (fun j => l.getD j 0) l.length).2 != 0) = false → 4 + (txtO (encR (fun j => l.getD j 0) l.length).1).size ≤ 9223372036854775807 ∧
     (decide (((xnT ++ txtO (encR (fun j => l.getD j 0) l.length).1).size : Int) > 63) = true → (⟨#[]⟩ : ByteArray) = res.1 ∧ 2 = res.2 ∧ True) ∧
     (decide (((xnT ++ txtO (encR (fun j => l.getD j 0) l.length).1).size : Int) > 63) = false → 4 + (txtO (encR (fun j => l.getD j 0) l.length).1).size ≤ 9223372036854775807 ∧ xnT ++ txtO (encR (fun j => l.getD j 0) l.length).1 = res.1 ∧ 0 = res.2 ∧ True))) := by
  intro h
  have e : rns t = l := by rw [← i1, rnK, rnG_no h, List.append_nil]
  rw [e] at hL
  have hl0 : l.length ≠ 0 := fun h0 => by have := i7 h0; omega
  have ei : ((l.length : Int) - 1).toNat = l.length - 1 := by omega
  have hg : ∀ i, i < l.length → 0 ≤ l.getD i 0 ∧ l.getD i 0 ≤ 1114111 := fun i hi => by
   rw [List.getD_eq_getElem?_getD, List.getElem?_eq_getElem hi]
   exact i6 _ (List.getElem_mem hi)
  obtain ⟨q1, q2⟩ := encR_ok (q := ⟨l.length, fun j => l.getD j 0⟩) (by show l.length ≤ 2000; omega) hg
  dsimp only at q1 q2
  rw [ei]
  refine ⟨rfl, Int.le_refl _, by omega, fun _ => by unfold in64; omega, fun _ => by omega, fun _ => by omega, fun h => ?_, fun h => ⟨fun i _ => congrArg (fun z => [X32 z]) (getD_rec l i), by omega, fun i hi => ?_, fun h2 => ?_, fun h2 => ?_⟩⟩
  ·exact pair_eq (by rw [← hL, ascL, if_neg (by rw [i2]; decide), if_pos h])
  ·have := hg i hi
   rw [getD_rec] at this
   exact this
  ·exact pair_eq (by rw [← hL, ascL, if_neg (by rw [i2]; decide), if_neg (by rw [h]; decide), if_pos (by simpa using h2)])
  ·have h2 : ¬ (encR (fun j => l.getD j 0) l.length).2 ≠ 0 := by simpa using h2
   have ht := txtO_size (encR (fun j => l.getD j 0) l.length).1
   refine ⟨by omega, fun h3 => ?_, fun h3 => ⟨by omega, ?_⟩⟩
   ·have h3 : ((xnT ++ txtO (encR (fun j => l.getD j 0) l.length).1).size : Int) > 63 := of_decide_eq_true h3
    exact pair_eq (by rw [← hL, ascL, if_neg (by rw [i2]; decide), if_neg (by rw [h]; decide), if_neg h2, if_pos (by omega)])
   ·have h3 : ¬ ((xnT ++ txtO (encR (fun j => l.getD j 0) l.length).1).size : Int) > 63 := of_decide_eq_false h3
    exact pair_eq (by rw [← hL, ascL, if_neg (by rw [i2]; decide), if_neg (by rw [h]; decide), if_neg h2, if_neg (by omega)])
 rw [hA]
 refine ⟨fun h => ⟨fun _ => ?_, fun h2 => by cases h2⟩, fun h => ⟨fun h2 => absurd h2 (by decide), fun _ => fin (by omega)⟩⟩
 have hd := dec8_rng t p
 have he := enc8_size ((Utf8.decode t p).1 : Int)
 obtain ⟨f, rfl⟩ : ∃ f', f = f' + 1 := ⟨f - 1, by omega⟩
 have hsn : rnK (l ++ [((Utf8.decode t p).1 : Int)]) t f (p + (Utf8.decode t p).2) = rns t := by
  rw [← i1, rnK, rnK, rnG_yes h, List.append_assoc]; rfl
 generalize hrr : ((Utf8.decode t p).1 : Int) = r at *
 refine ⟨fun _ => by omega, fun _ => by rw [ByteArray.size_append]; show 1 + _ + 1 ≤ _; omega, fun _ => by rw [ByteArray.size_append, ByteArray.size_append]; show 1 + _ + 1 ≤ _; omega, fun h1 => ?_, fun h1 => ?_⟩
 ·have h1 : badC r = true := h1
  refine pair_eq ?_
  rw [← hL, ascL, if_pos]
  rw [← hsn, rnK]
  have h2 := bdN_snoc l r
  rw [h1, Bool.or_true] at h2
  generalize rnG t f (p + (Utf8.decode t p).2) = tl
  refine bdN_le _ (l ++ [r]).length _ (by rw [show ((l ++ [r]) ++ tl).length = (l ++ [r]).length + tl.length from List.length_append]; exact Nat.le_add_right _ _) ?_
  rw [bdN_app _ _ _ (Nat.le_refl _)]
  exact h2
 ·have h1 : badC r = false := h1
  refine ⟨rfl, by omega, by omega, ⟨f, p + (Utf8.decode t p).2, l ++ [r]⟩, ⟨hsn, by show bdN (l ++ [r]) (l ++ [r]).length = false; rw [bdN_snoc, i2, h1]; rfl, by show t.size ≤ p + (Utf8.decode t p).2 + f; omega, by show (l ++ [r]).length ≤ _; rw [List.length_append, List.length_singleton]; show l.length + 1 ≤ p + (Utf8.decode t p).2; omega, by show (l ++ [r]).length + f = t.size; rw [List.length_append, List.length_singleton]; omega, fun y hy => ?_, fun h0 => by simp at h0, hL⟩, by show f < f + 1; omega, rfl, rfl, by rw [List.length_append]; rfl, rfl, ⟨⟨rfl, rfl, rfl⟩, by rw [List.length_append]; rfl, fun j hj => ?_⟩, ⟨rfl, rfl⟩, trivial⟩
  ·rcases List.mem_append.1 hy with k | k
   ·exact i6 y k
   ·obtain rfl := List.mem_singleton.1 k
    omega
  ·rw [bltN, List.getD_eq_getElem?_getD, List.getD_eq_getElem?_getD]
   by_cases e : j < l.length
   ·rw [decide_eq_true e, List.getElem?_append_left e]
   ·rw [decide_eq_false e, show j = l.length by omega]
    simp
def ascC : CT := C1 dStr (fun s => [s.size ≤ 2000]) fun s => .tup [XT (ascR s).1, XI (ascR s).2]
theorem asc_ok : CTok Tryd.prog 37 ascC := C1_ok cxa_ok Tryd.func37 rfl (by decide) dStr_eq.ok (by kernel_rfl) (fun _ => rfl) fun s hc => exv (ascV_eq s) (asc_v s (hc _ (by simp)))
end Go.Proofs.YtaglpckihegmoaaDoorAv
namespace Go.Proofs.YtaglpckihegmoaaDoorAv
open Go Go.RowKit
def ptT : ByteArray := ⟨#[46]⟩
def eaE (f : ByteArray → ByteArray × Int) (l : List ByteArray) : Nat → Int
 | 0 => 0
 | i + 1 => if eaE f l i ≠ 0 then eaE f l i else (f (l.getD i ⟨#[]⟩)).2
def labs (s : ByteArray) : List ByteArray := splitS (cutSufB s ptT).1 ptT
def eaR (f : ByteArray → ByteArray × Int) (s : ByteArray) : ByteArray × Int :=
 if eaE f (labs s) (labs s).length ≠ 0 then (⟨#[]⟩, eaE f (labs s) (labs s).length) else (ljF (fun j => (f ((labs s).getD j ⟨#[]⟩)).1) (labs s).length, 0)
def FN (f : FuncId) : XV := .v (.p (.func (.func f) #[] #[]))
def eaI (fn : FuncId) (f : ByteArray → ByteArray × Int) (s : ByteArray) : Inv where
 σ := IL
 S := fun x => ⟨[(1, FN fn), (6, .sl 0 1 0 x.i), (17, strsL (labs s)), (18, XI (labs s).length), (19, XI x.i)], [(0, .vec 9 true x.i 1 fun j => [XT (f ((labs s).getD j ⟨#[]⟩)).1])], 1, false, []⟩
 inv := fun x => x.i ≤ (labs s).length ∧ eaE f (labs s) x.i = 0
 μ := fun x => (labs s).length - x.i
def eaEn (fn : FuncId) (f : ByteArray → ByteArray × Int) (s : ByteArray) : Env := { loops := [(0, eaI fn f s)], own := [(3, [(6, 9, 1)])], frz := [(11, [6])] }
def cxea : Cx := { cx0 with C := [(41, cutSufC), (31, lspC), (42, ljnC), (37, ascC), (46, uniC)] }
def eaAV (s : ByteArray) : Prop :=
 s.size ≤ (1000000000 : Nat) ∧ (cutSufB s ⟨#[46]⟩).fst.size ≤ (1000000000 : Nat) ∧ (∃ (x : (eaI (37 : FuncId) ascR s).σ), (x.i ≤ (splitS (cutSufB s ⟨#[46]⟩).fst ⟨#[46]⟩).length ∧ eaE ascR (splitS (cutSufB s ⟨#[46]⟩).fst ⟨#[46]⟩) x.i = (0 : Int)) ∧ true = true ∧ XV.v (AV.p (Value.func (Fn.func (37 : FuncId)) #[] #[])) = XV.v (AV.p (Value.func (Fn.func (37 : FuncId)) #[] #[])) ∧ XV.sl 0 1 0 0 = XV.sl 0 1 0 x.i ∧ ((XV.fz (splitS (cutSufB s ⟨#[46]⟩).fst ⟨#[46]⟩).length 1 fun (i : Nat) => [XT ((splitS (cutSufB s ⟨#[46]⟩).fst ⟨#[46]⟩).getD i ⟨#[]⟩)]) = XV.fz (splitS (cutSufB s ⟨#[46]⟩).fst ⟨#[46]⟩).length 1 fun (i : Nat) => [XT ((splitS (cutSufB s ⟨#[46]⟩).fst ⟨#[46]⟩).getD i ⟨#[]⟩)]) ∧ (↑(splitS (cutSufB s ⟨#[46]⟩).fst ⟨#[46]⟩).length : Int) = (↑(splitS (cutSufB s ⟨#[46]⟩).fst ⟨#[46]⟩).length : Int) ∧ (0 : Int) = (↑x.i : Int) ∧ (((9 : Nat) = (9 : TypeId) ∧ true = true ∧ (1 : Nat) = (1 : Nat)) ∧ (0 : Nat) = x.i ∧ ∀ (j : Nat), j < (0 : Nat) → [] = [XT ((ascR ((splitS (cutSufB s ⟨#[46]⟩).fst ⟨#[46]⟩).getD j ⟨#[]⟩)).fst)]) ∧ True) ∧ ∀ (x : IL), x.i ≤ (splitS (cutSufB s ⟨#[46]⟩).fst ⟨#[46]⟩).length ∧ eaE ascR (splitS (cutSufB s ⟨#[46]⟩).fst ⟨#[46]⟩) x.i = (0 : Int) → (decide ((↑x.i : Int) < (↑(splitS (cutSufB s ⟨#[46]⟩).fst ⟨#[46]⟩).length : Int)) = true → (0 : Int) ≤ (↑x.i : Int) ∧ (↑x.i : Int) < (↑(splitS (cutSufB s ⟨#[46]⟩).fst ⟨#[46]⟩).length : Int) ∧ ((splitS (cutSufB s ⟨#[46]⟩).fst ⟨#[46]⟩).getD (↑x.i : Int).toNat ⟨#[]⟩).size ≤ (2000 : Nat) ∧ (((ascR ((splitS (cutSufB s ⟨#[46]⟩).fst ⟨#[46]⟩).getD (↑x.i : Int).toNat ⟨#[]⟩)).snd != (0 : Int)) = true → ⟨#[]⟩ = (eaR ascR s).fst ∧ (ascR ((splitS (cutSufB s ⟨#[46]⟩).fst ⟨#[46]⟩).getD (↑x.i : Int).toNat ⟨#[]⟩)).snd = (eaR ascR s).snd ∧ True) ∧ (((ascR ((splitS (cutSufB s ⟨#[46]⟩).fst ⟨#[46]⟩).getD (↑x.i : Int).toNat ⟨#[]⟩)).snd != (0 : Int)) = false → x.i = x.i ∧ (x.i + (1 : Nat)) * (16 : Nat) ≤ (140737488355328 : Nat) ∧ x.i + (1 : Nat) ≤ (140737488355328 : Nat) ∧ in64 ((↑x.i : Int) + (1 : Int)) ∧ ∃ (x' : (eaI (37 : FuncId) ascR s).σ), (x'.i ≤ (splitS (cutSufB s ⟨#[46]⟩).fst ⟨#[46]⟩).length ∧ eaE ascR (splitS (cutSufB s ⟨#[46]⟩).fst ⟨#[46]⟩) x'.i = (0 : Int)) ∧ (splitS (cutSufB s ⟨#[46]⟩).fst ⟨#[46]⟩).length - x'.i < (splitS (cutSufB s ⟨#[46]⟩).fst ⟨#[46]⟩).length - x.i ∧ true = true ∧ XV.v (AV.p (Value.func (Fn.func (37 : FuncId)) #[] #[])) = XV.v (AV.p (Value.func (Fn.func (37 : FuncId)) #[] #[])) ∧ XV.sl 0 1 0 (x.i + (1 : Nat)) = XV.sl 0 1 0 x'.i ∧ ((XV.fz (splitS (cutSufB s ⟨#[46]⟩).fst ⟨#[46]⟩).length 1 fun (i : Nat) => [XT ((splitS (cutSufB s ⟨#[46]⟩).fst ⟨#[46]⟩).getD i ⟨#[]⟩)]) = XV.fz (splitS (cutSufB s ⟨#[46]⟩).fst ⟨#[46]⟩).length 1 fun (i : Nat) => [XT ((splitS (cutSufB s ⟨#[46]⟩).fst ⟨#[46]⟩).getD i ⟨#[]⟩)]) ∧ (↑(splitS (cutSufB s ⟨#[46]⟩).fst ⟨#[46]⟩).length : Int) = (↑(splitS (cutSufB s ⟨#[46]⟩).fst ⟨#[46]⟩).length : Int) ∧ (↑x.i : Int) + (1 : Int) = (↑x'.i : Int) ∧ (((9 : TypeId) = (9 : TypeId) ∧ true = true ∧ (1 : Nat) = (1 : Nat)) ∧ x.i + (1 : Nat) = x'.i ∧ ∀ (j : Nat), j < x.i + (1 : Nat) → [XT (bif j.blt x.i then (ascR ((splitS (cutSufB s ⟨#[46]⟩).fst ⟨#[46]⟩).getD j ⟨#[]⟩)).fst else (ascR ((splitS (cutSufB s ⟨#[46]⟩).fst ⟨#[46]⟩).getD (↑x.i : Int).toNat ⟨#[]⟩)).fst)] = [XT ((ascR ((splitS (cutSufB s ⟨#[46]⟩).fst ⟨#[46]⟩).getD j ⟨#[]⟩)).fst)]) ∧ True)) ∧ (decide ((↑x.i : Int) < (↑(splitS (cutSufB s ⟨#[46]⟩).fst ⟨#[46]⟩).length : Int)) = false → x.i = x.i ∧ (∀ (i : Nat), i < x.i → [XT ((ascR ((splitS (cutSufB s ⟨#[46]⟩).fst ⟨#[46]⟩).getD i ⟨#[]⟩)).fst)] = [XT ((ascR ((splitS (cutSufB s ⟨#[46]⟩).fst ⟨#[46]⟩).getD i ⟨#[]⟩)).fst)]) ∧ x.i ≤ (3000 : Nat) ∧ (∀ (i : Nat), i < x.i → (ascR ((splitS (cutSufB s ⟨#[46]⟩).fst ⟨#[46]⟩).getD i ⟨#[]⟩)).fst.size ≤ (1000000 : Nat)) ∧ ljF (fun (i : Nat) => (ascR ((splitS (cutSufB s ⟨#[46]⟩).fst ⟨#[46]⟩).getD i ⟨#[]⟩)).fst) x.i = (eaR ascR s).fst ∧ (0 : Int) = (eaR ascR s).snd ∧ True)
theorem eaAV_eq (s : ByteArray) : eaAV s = (funC cxea Tryd.f36 (mkSc (eaEn 37 ascR s) (bodyOf Tryd.f36)) [XT s, FN 37] (.tup [XT (eaR ascR s).1, XI (eaR ascR s).2])) := by kernel_rfl
def eaUV (s : ByteArray) : Prop :=
 s.size ≤ (1000000000 : Nat) ∧ (cutSufB s ⟨#[46]⟩).fst.size ≤ (1000000000 : Nat) ∧ (∃ (x : (eaI (46 : FuncId) uniR s).σ), (x.i ≤ (splitS (cutSufB s ⟨#[46]⟩).fst ⟨#[46]⟩).length ∧ eaE uniR (splitS (cutSufB s ⟨#[46]⟩).fst ⟨#[46]⟩) x.i = (0 : Int)) ∧ true = true ∧ XV.v (AV.p (Value.func (Fn.func (46 : FuncId)) #[] #[])) = XV.v (AV.p (Value.func (Fn.func (46 : FuncId)) #[] #[])) ∧ XV.sl 0 1 0 0 = XV.sl 0 1 0 x.i ∧ ((XV.fz (splitS (cutSufB s ⟨#[46]⟩).fst ⟨#[46]⟩).length 1 fun (i : Nat) => [XT ((splitS (cutSufB s ⟨#[46]⟩).fst ⟨#[46]⟩).getD i ⟨#[]⟩)]) = XV.fz (splitS (cutSufB s ⟨#[46]⟩).fst ⟨#[46]⟩).length 1 fun (i : Nat) => [XT ((splitS (cutSufB s ⟨#[46]⟩).fst ⟨#[46]⟩).getD i ⟨#[]⟩)]) ∧ (↑(splitS (cutSufB s ⟨#[46]⟩).fst ⟨#[46]⟩).length : Int) = (↑(splitS (cutSufB s ⟨#[46]⟩).fst ⟨#[46]⟩).length : Int) ∧ (0 : Int) = (↑x.i : Int) ∧ (((9 : Nat) = (9 : TypeId) ∧ true = true ∧ (1 : Nat) = (1 : Nat)) ∧ (0 : Nat) = x.i ∧ ∀ (j : Nat), j < (0 : Nat) → [] = [XT ((uniR ((splitS (cutSufB s ⟨#[46]⟩).fst ⟨#[46]⟩).getD j ⟨#[]⟩)).fst)]) ∧ True) ∧ ∀ (x : IL), x.i ≤ (splitS (cutSufB s ⟨#[46]⟩).fst ⟨#[46]⟩).length ∧ eaE uniR (splitS (cutSufB s ⟨#[46]⟩).fst ⟨#[46]⟩) x.i = (0 : Int) → (decide ((↑x.i : Int) < (↑(splitS (cutSufB s ⟨#[46]⟩).fst ⟨#[46]⟩).length : Int)) = true → (0 : Int) ≤ (↑x.i : Int) ∧ (↑x.i : Int) < (↑(splitS (cutSufB s ⟨#[46]⟩).fst ⟨#[46]⟩).length : Int) ∧ ((splitS (cutSufB s ⟨#[46]⟩).fst ⟨#[46]⟩).getD (↑x.i : Int).toNat ⟨#[]⟩).size ≤ (1000000 : Nat) ∧ (((uniR ((splitS (cutSufB s ⟨#[46]⟩).fst ⟨#[46]⟩).getD (↑x.i : Int).toNat ⟨#[]⟩)).snd != (0 : Int)) = true → ⟨#[]⟩ = (eaR uniR s).fst ∧ (uniR ((splitS (cutSufB s ⟨#[46]⟩).fst ⟨#[46]⟩).getD (↑x.i : Int).toNat ⟨#[]⟩)).snd = (eaR uniR s).snd ∧ True) ∧ (((uniR ((splitS (cutSufB s ⟨#[46]⟩).fst ⟨#[46]⟩).getD (↑x.i : Int).toNat ⟨#[]⟩)).snd != (0 : Int)) = false → x.i = x.i ∧ (x.i + (1 : Nat)) * (16 : Nat) ≤ (140737488355328 : Nat) ∧ x.i + (1 : Nat) ≤ (140737488355328 : Nat) ∧ in64 ((↑x.i : Int) + (1 : Int)) ∧ ∃ (x' : (eaI (46 : FuncId) uniR s).σ), (x'.i ≤ (splitS (cutSufB s ⟨#[46]⟩).fst ⟨#[46]⟩).length ∧ eaE uniR (splitS (cutSufB s ⟨#[46]⟩).fst ⟨#[46]⟩) x'.i = (0 : Int)) ∧ (splitS (cutSufB s ⟨#[46]⟩).fst ⟨#[46]⟩).length - x'.i < (splitS (cutSufB s ⟨#[46]⟩).fst ⟨#[46]⟩).length - x.i ∧ true = true ∧ XV.v (AV.p (Value.func (Fn.func (46 : FuncId)) #[] #[])) = XV.v (AV.p (Value.func (Fn.func (46 : FuncId)) #[] #[])) ∧ XV.sl 0 1 0 (x.i + (1 : Nat)) = XV.sl 0 1 0 x'.i ∧ ((XV.fz (splitS (cutSufB s ⟨#[46]⟩).fst ⟨#[46]⟩).length 1 fun (i : Nat) => [XT ((splitS (cutSufB s ⟨#[46]⟩).fst ⟨#[46]⟩).getD i ⟨#[]⟩)]) = XV.fz (splitS (cutSufB s ⟨#[46]⟩).fst ⟨#[46]⟩).length 1 fun (i : Nat) => [XT ((splitS (cutSufB s ⟨#[46]⟩).fst ⟨#[46]⟩).getD i ⟨#[]⟩)]) ∧ (↑(splitS (cutSufB s ⟨#[46]⟩).fst ⟨#[46]⟩).length : Int) = (↑(splitS (cutSufB s ⟨#[46]⟩).fst ⟨#[46]⟩).length : Int) ∧ (↑x.i : Int) + (1 : Int) = (↑x'.i : Int) ∧ (((9 : TypeId) = (9 : TypeId) ∧ true = true ∧ (1 : Nat) = (1 : Nat)) ∧ x.i + (1 : Nat) = x'.i ∧ ∀ (j : Nat), j < x.i + (1 : Nat) → [XT (bif j.blt x.i then (uniR ((splitS (cutSufB s ⟨#[46]⟩).fst ⟨#[46]⟩).getD j ⟨#[]⟩)).fst else (uniR ((splitS (cutSufB s ⟨#[46]⟩).fst ⟨#[46]⟩).getD (↑x.i : Int).toNat ⟨#[]⟩)).fst)] = [XT ((uniR ((splitS (cutSufB s ⟨#[46]⟩).fst ⟨#[46]⟩).getD j ⟨#[]⟩)).fst)]) ∧ True)) ∧ (decide ((↑x.i : Int) < (↑(splitS (cutSufB s ⟨#[46]⟩).fst ⟨#[46]⟩).length : Int)) = false → x.i = x.i ∧ (∀ (i : Nat), i < x.i → [XT ((uniR ((splitS (cutSufB s ⟨#[46]⟩).fst ⟨#[46]⟩).getD i ⟨#[]⟩)).fst)] = [XT ((uniR ((splitS (cutSufB s ⟨#[46]⟩).fst ⟨#[46]⟩).getD i ⟨#[]⟩)).fst)]) ∧ x.i ≤ (3000 : Nat) ∧ (∀ (i : Nat), i < x.i → (uniR ((splitS (cutSufB s ⟨#[46]⟩).fst ⟨#[46]⟩).getD i ⟨#[]⟩)).fst.size ≤ (1000000 : Nat)) ∧ ljF (fun (i : Nat) => (uniR ((splitS (cutSufB s ⟨#[46]⟩).fst ⟨#[46]⟩).getD i ⟨#[]⟩)).fst) x.i = (eaR uniR s).fst ∧ (0 : Int) = (eaR uniR s).snd ∧ True)
theorem eaUV_eq (s : ByteArray) : eaUV s = (funC cxea Tryd.f36 (mkSc (eaEn 46 uniR s) (bodyOf Tryd.f36)) [XT s, FN 46] (.tup [XT (eaR uniR s).1, XI (eaR uniR s).2])) := by kernel_rfl
def eachC : CT := fun args => match args with
 | [x, y] => match strO x, fnO y with
  | some s, some f => match Nat.beq f 37, Nat.beq f 46 with
   | true, _ => some ([s.size ≤ 2000], .tup [XT (eaR ascR s).1, XI (eaR ascR s).2])
   | _, true => some ([s.size ≤ 2000], .tup [XT (eaR uniR s).1, XI (eaR uniR s).2])
   | _, _ => none
  | _, _ => none
 | _ => none
def toA (s : ByteArray) : ByteArray × Int := if s.size > 1012 then (⟨#[]⟩, 2) else if (eaR ascR s).2 = 0 ∧ (eaR ascR s).1.size > 253 then (⟨#[]⟩, 2) else eaR ascR s
def toAC : CT := C1 dStr (fun _ => []) fun s => .tup [XT (toA s).1, XI (toA s).2]
def toAsV (s : ByteArray) : Prop :=
 (decide ((↑s.size : Int) > (1012 : Int)) = true → ⟨#[]⟩ = (toA s).fst ∧ (2 : Int) = (toA s).snd ∧ True) ∧ (decide ((↑s.size : Int) > (1012 : Int)) = false → s.size ≤ (2000 : Nat) ∧ (((eaR ascR s).snd == (0 : Int) && decide ((↑(eaR ascR s).fst.size : Int) > (253 : Int))) = true → ⟨#[]⟩ = (toA s).fst ∧ (2 : Int) = (toA s).snd ∧ True) ∧ (((eaR ascR s).snd == (0 : Int) && decide ((↑(eaR ascR s).fst.size : Int) > (253 : Int))) = false → (eaR ascR s).fst = (toA s).fst ∧ (eaR ascR s).snd = (toA s).snd ∧ True))
theorem toAsV_eq (s : ByteArray) : toAsV s = (funC { cx0 with C := [(36, eachC)] } Tryd.f30 .nil [XT s] (.tup [XT (toA s).1, XI (toA s).2])) := by kernel_rfl
theorem cutSuf_size (s p : ByteArray) : (cutSufB s p).1.size ≤ s.size := by
 unfold cutSufB
 rw [mk8_size, size_data, Lib.trimSuffix]
 split
 ·rw [List.length_take]; omega
 ·exact Nat.le_refl _
theorem labs_size (s : ByteArray) (hs : s.size ≤ 2000) (i : Nat) : ((labs s).getD i ⟨#[]⟩).size ≤ 2000 := by
 rw [List.getD_eq_getElem?_getD]
 cases h : (labs s)[i]? with
 | none => exact Nat.zero_le _
 | some x =>
  have hm : x ∈ labs s := List.mem_of_getElem? h
  have hm : x ∈ splitS (cutSufB s ptT).1 ⟨#[46]⟩ := hm
  rw [splitS_one] at hm
  obtain ⟨y, hy, rfl⟩ := List.mem_map.1 hm
  have h1 := split1_each 46 _ y hy
  have h2 := cutSuf_size s ptT
  rw [← size_data] at h1
  show (mk8 y).size ≤ 2000
  rw [mk8_size]
  omega
theorem eaE_keep (f : ByteArray → ByteArray × Int) (l : List ByteArray) (i : Nat) (h : eaE f l i ≠ 0) : ∀ n, i ≤ n → eaE f l n = eaE f l i
  | 0, hn => by obtain rfl : i = 0 := by omega
                rfl
  | n + 1, hn => by
    by_cases e : i = n + 1
    · rw [e]
    · have ih := eaE_keep f l i h n (by omega)
      rw [eaE, if_pos (by rw [ih]; exact h), ih]
theorem encB_size (o : List Int) : (encB o).size ≤ 4 * o.length := by
 have : ∀ (o : List Int) (a : ByteArray), (o.foldl (fun r n => r ++ Utf8.encode n) a).size ≤ a.size + 4 * o.length := by
  intro o
  induction o with
  | nil => intro a; exact Nat.le_refl _
  | cons x o ih =>
   intro a
   have h1 := ih (a ++ Utf8.encode x)
   have h2 := enc8_size x
   rw [ByteArray.size_append] at h1
   simp only [List.foldl_cons, List.length_cons]
   omega
 have := this o ⟨#[]⟩
 have e : (⟨#[]⟩ : ByteArray).size = 0 := rfl
 unfold encB
 omega
theorem uniR_size (s : ByteArray) : (uniR s).1.size ≤ s.size + 504 := by
 have e : (⟨#[]⟩ : ByteArray).size = 0 := rfl
 have h1 := decR_len (cutPreB s xnT).1
 have h2 := encB_size (decR (cutPreB s xnT).1).1
 rw [uniR]
 split
 ·show s.size ≤ _; omega
 ·split
  ·show (⟨#[]⟩ : ByteArray).size ≤ _; omega
  ·rw [uniL]
   split
   ·show (⟨#[]⟩ : ByteArray).size ≤ _; omega
   ·split
    ·show (⟨#[]⟩ : ByteArray).size ≤ _; omega
    ·show (encB _).size ≤ _; omega
theorem ascR_size (s : ByteArray) : (ascR s).1.size ≤ s.size + 504 := by
 have e : (⟨#[]⟩ : ByteArray).size = 0 := rfl
 have hl := lowT_size s
 rw [ascR, ascS]
 split
 ·split
  ·show (⟨#[]⟩ : ByteArray).size ≤ _; omega
  ·split
   ·show (lowT s).size ≤ _; omega
   ·show (lowT s).size ≤ _; omega
 ·split
  ·show (⟨#[]⟩ : ByteArray).size ≤ _; omega
  ·rw [ascL]
   split
   ·show (⟨#[]⟩ : ByteArray).size ≤ _; omega
   ·split
    ·show (⟨#[]⟩ : ByteArray).size ≤ _; omega
    ·split
     ·show (⟨#[]⟩ : ByteArray).size ≤ _; omega
     ·split
      ·show (⟨#[]⟩ : ByteArray).size ≤ _; omega
      ·rename_i h; show (xnT ++ _).size ≤ _; omega
theorem eaA_v (s : ByteArray) (hs : s.size ≤ 2000) : eaAV s := by
 have h0 := cutSuf_size s ptT
 have hl := splitS_len (cutSufB s ptT).1 46
 have hx : ∀ i, ((labs s).getD i ⟨#[]⟩).size ≤ 2000 := labs_size s hs
 unfold eaAV
 refine ⟨by omega, by show (cutSufB s ptT).1.size ≤ _; omega, ⟨⟨0⟩, ⟨Nat.zero_le _, rfl⟩, rfl, rfl, rfl, rfl, rfl, rfl, ⟨⟨rfl, rfl, rfl⟩, rfl, fun j hj => absurd hj (Nat.not_lt_zero _)⟩, trivial⟩, ?_⟩
 rintro ⟨i⟩ ⟨hi, he⟩
 have hi : i ≤ (labs s).length := hi
 have he : eaE ascR (labs s) i = 0 := he
 have hlen : (labs s).length ≤ 2001 := by show (splitS (cutSufB s ptT).1 ⟨#[46]⟩).length ≤ 2001; omega
 refine ⟨fun h => ?_, fun h => ?_⟩
 ·have h : (i : Int) < (labs s).length := of_decide_eq_true h
  refine ⟨by dsimp only; omega, h, Nat.le_trans (hx i) (by decide), fun h1 => ?_, fun h1 => ?_⟩
  ·have h1 : ((ascR ((labs s).getD i ⟨#[]⟩)).2 != 0) = true := h1
   have h1 : (ascR ((labs s).getD i ⟨#[]⟩)).2 ≠ 0 := by simpa using h1
   have h2 : eaE ascR (labs s) (i + 1) = (ascR ((labs s).getD i ⟨#[]⟩)).2 := by rw [eaE, if_neg (by rw [he]; simp)]
   have h3 : eaE ascR (labs s) (labs s).length = eaE ascR (labs s) (i + 1) := eaE_keep _ _ (i + 1) (by rw [h2]; exact h1) _ (by omega)
   exact pair_eq (show eaR ascR s = (⟨#[]⟩, (ascR ((labs s).getD i ⟨#[]⟩)).2) by rw [eaR, h3, h2, if_pos h1])
  ·have h1 : ((ascR ((labs s).getD i ⟨#[]⟩)).2 != 0) = false := h1
   have h1 : (ascR ((labs s).getD i ⟨#[]⟩)).2 = 0 := by simpa using h1
   refine ⟨rfl, by dsimp only; omega, by dsimp only; omega, by unfold in64; dsimp only; omega, ⟨i + 1⟩, ⟨by show i + 1 ≤ (labs s).length; omega, by show eaE ascR (labs s) (i + 1) = 0; rw [eaE, if_neg (by rw [he]; simp), h1]⟩, by show (labs s).length - (i + 1) < (labs s).length - i; omega, rfl, rfl, rfl, rfl, rfl, rfl, ⟨⟨rfl, rfl, rfl⟩, rfl, fun j hj => ?_⟩, trivial⟩
   dsimp only at hj ⊢
   rw [bltN]
   by_cases e : j < i
   ·rw [decide_eq_true e]; rfl
   ·obtain rfl : j = i := by omega
    rw [decide_eq_false e]; rfl
 ·have h : ¬ (i : Int) < (labs s).length := of_decide_eq_false h
  obtain rfl : i = (labs s).length := by omega
  exact ⟨rfl, fun _ _ => rfl, by dsimp only; omega, fun i _ => Nat.le_trans (ascR_size ((labs s).getD i ⟨#[]⟩)) (by have := hx i; omega), pair_eq (show eaR ascR s = (ljF (fun j => (ascR ((labs s).getD j ⟨#[]⟩)).1) (labs s).length, 0) by rw [eaR, if_neg (by rw [he]; simp)])⟩
theorem eaU_v (s : ByteArray) (hs : s.size ≤ 2000) : eaUV s := by
 have h0 := cutSuf_size s ptT
 have hl := splitS_len (cutSufB s ptT).1 46
 have hx : ∀ i, ((labs s).getD i ⟨#[]⟩).size ≤ 2000 := labs_size s hs
 unfold eaUV
 refine ⟨by omega, by show (cutSufB s ptT).1.size ≤ _; omega, ⟨⟨0⟩, ⟨Nat.zero_le _, rfl⟩, rfl, rfl, rfl, rfl, rfl, rfl, ⟨⟨rfl, rfl, rfl⟩, rfl, fun j hj => absurd hj (Nat.not_lt_zero _)⟩, trivial⟩, ?_⟩
 rintro ⟨i⟩ ⟨hi, he⟩
 have hi : i ≤ (labs s).length := hi
 have he : eaE uniR (labs s) i = 0 := he
 have hlen : (labs s).length ≤ 2001 := by show (splitS (cutSufB s ptT).1 ⟨#[46]⟩).length ≤ 2001; omega
 refine ⟨fun h => ?_, fun h => ?_⟩
 ·have h : (i : Int) < (labs s).length := of_decide_eq_true h
  refine ⟨by dsimp only; omega, h, Nat.le_trans (hx i) (by decide), fun h1 => ?_, fun h1 => ?_⟩
  ·have h1 : ((uniR ((labs s).getD i ⟨#[]⟩)).2 != 0) = true := h1
   have h1 : (uniR ((labs s).getD i ⟨#[]⟩)).2 ≠ 0 := by simpa using h1
   have h2 : eaE uniR (labs s) (i + 1) = (uniR ((labs s).getD i ⟨#[]⟩)).2 := by rw [eaE, if_neg (by rw [he]; simp)]
   have h3 : eaE uniR (labs s) (labs s).length = eaE uniR (labs s) (i + 1) := eaE_keep _ _ (i + 1) (by rw [h2]; exact h1) _ (by omega)
   exact pair_eq (show eaR uniR s = (⟨#[]⟩, (uniR ((labs s).getD i ⟨#[]⟩)).2) by rw [eaR, h3, h2, if_pos h1])
  ·have h1 : ((uniR ((labs s).getD i ⟨#[]⟩)).2 != 0) = false := h1
   have h1 : (uniR ((labs s).getD i ⟨#[]⟩)).2 = 0 := by simpa using h1
   refine ⟨rfl, by dsimp only; omega, by dsimp only; omega, by unfold in64; dsimp only; omega, ⟨i + 1⟩, ⟨by show i + 1 ≤ (labs s).length; omega, by show eaE uniR (labs s) (i + 1) = 0; rw [eaE, if_neg (by rw [he]; simp), h1]⟩, by show (labs s).length - (i + 1) < (labs s).length - i; omega, rfl, rfl, rfl, rfl, rfl, rfl, ⟨⟨rfl, rfl, rfl⟩, rfl, fun j hj => ?_⟩, trivial⟩
   dsimp only at hj ⊢
   rw [bltN]
   by_cases e : j < i
   ·rw [decide_eq_true e]; rfl
   ·obtain rfl : j = i := by omega
    rw [decide_eq_false e]; rfl
 ·have h : ¬ (i : Int) < (labs s).length := of_decide_eq_false h
  obtain rfl : i = (labs s).length := by omega
  exact ⟨rfl, fun _ _ => rfl, by dsimp only; omega, fun i _ => Nat.le_trans (uniR_size ((labs s).getD i ⟨#[]⟩)) (by have := hx i; omega), pair_eq (show eaR uniR s = (ljF (fun j => (uniR ((labs s).getD j ⟨#[]⟩)).1) (labs s).length, 0) by rw [eaR, if_neg (by rw [he]; simp)])⟩
theorem cxea_ok : cxea.ok Tryd.prog := ((((cx0_ok.addC uni_ok).addC asc_ok).addC ljn_ok).addC lsp_ok).addC cutSuf_ok
theorem each_ok : CTok Tryd.prog 36 eachC := ct_ok cxea_ok Tryd.func36 rfl (by decide) fun args cs v hC hc => by
 unfold eachC at hC
 split at hC
 ·rename_i x y
  split at hC
  ·rename_i s f hs hf
   have e1 := strO_eq hs
   have e2 := fnO_eq hf
   subst e1 e2
   split at hC
   ·rename_i hb
    rw [beqN, decide_eq_true_eq] at hb
    subst hb
    simp only [Option.some.injEq, Prod.mk.injEq] at hC
    obtain ⟨rfl, rfl⟩ := hC
    exact ⟨by kernel_rfl, rfl, rfl, exv (eaAV_eq s) (eaA_v s (hc _ (by simp)))⟩
   ·rename_i hb _
    rw [beqN, decide_eq_true_eq] at hb
    subst hb
    simp only [Option.some.injEq, Prod.mk.injEq] at hC
    obtain ⟨rfl, rfl⟩ := hC
    exact ⟨by kernel_rfl, rfl, rfl, exv (eaUV_eq s) (eaU_v s (hc _ (by simp)))⟩
   ·cases hC
  ·cases hC
 ·cases hC
theorem toAs_v (s : ByteArray) : toAsV s := by
 unfold toAsV
 refine ⟨fun h => ?_, fun h => ?_⟩
 ·have h : (s.size : Int) > 1012 := of_decide_eq_true h
  exact pair_eq (by rw [toA, if_pos (by omega)])
 ·have h : ¬ (s.size : Int) > 1012 := of_decide_eq_false h
  refine ⟨by omega, fun h2 => ?_, fun h2 => ?_⟩
  ·simp only [Bool.and_eq_true, beq_iff_eq, decide_eq_true_eq] at h2
   exact pair_eq (by rw [toA, if_neg (by omega), if_pos ⟨h2.1, by omega⟩])
  ·have h3 : toA s = eaR ascR s := by
    rw [toA, if_neg (by omega), if_neg]
    rintro ⟨a, b⟩
    rw [a] at h2
    simp only [beq_self_eq_true, Bool.true_and, decide_eq_false_iff_not] at h2
    omega
   rw [h3]
   exact ⟨rfl, rfl, trivial⟩
theorem toA_ok : CTok Tryd.prog 30 toAC := C1_ok (cx0_ok.addC each_ok) Tryd.func30 rfl (by decide) dStr_eq.ok (by kernel_rfl) (fun _ => rfl) fun s hc => exv (toAsV_eq s) (toAs_v s)
end Go.Proofs.YtaglpckihegmoaaDoorAv
namespace Go.Proofs.YtaglpckihegmoaaDoorAv
open Go Go.RowKit
def cntL (s : ByteArray) : Int := if s = ptT then 0 else (splitS s ptT).length
def dotC : CT := C1 dStr (fun _ => []) fun s => XI (cntB s ptT)
def cnlC : CT := C1 dStr (fun s => [s.size ≤ 1000000]) fun s => XI (cntL s)
def cxg : Cx := { cx0 with C := [(34, cntC), (31, lspC)] }
def dotV (s : ByteArray) : Prop :=
 (1 : Nat) = (1 : Nat) ∧ cntB s ⟨#[46]⟩ = cntB s ⟨#[46]⟩
theorem dotV_eq (s : ByteArray) : dotV s = (funC cxg Tryd.f21 .nil [XT s] (XI (cntB s ptT))) := by kernel_rfl
def cnlV (s : ByteArray) : Prop :=
 (decide (s = ⟨#[46]⟩) = true → (0 : Int) = cntL s) ∧ (decide (s = ⟨#[46]⟩) = false → s.size ≤ (1000000000 : Nat) ∧ (↑(splitS s ⟨#[46]⟩).length : Int) = cntL s)
theorem cnlV_eq (s : ByteArray) : cnlV s = (funC cxg Tryd.f29 .nil [XT s] (XI (cntL s))) := by kernel_rfl
theorem dot_v (s : ByteArray) : dotV s := by
 unfold dotV
 exact ⟨rfl, rfl⟩
theorem dot_ok : CTok Tryd.prog 21 dotC := C1_ok ((cx0_ok.addC lsp_ok).addC cnt_ok) Tryd.func21 rfl (by decide) dStr_eq.ok (by kernel_rfl) (fun _ => rfl) fun s hc => exv (dotV_eq s) (dot_v s)
theorem cnl_v (s : ByteArray) (hs : s.size ≤ 1000000) : cnlV s := by
 unfold cnlV
 refine ⟨fun h => ?_, fun h => ⟨by omega, ?_⟩⟩
 ·have h : s = ptT := of_decide_eq_true h
  rw [cntL, if_pos h]
 ·have h : ¬ s = ptT := of_decide_eq_false h
  rw [cntL, if_neg h]; rfl
theorem cxg_ok : cxg.ok Tryd.prog := (cx0_ok.addC lsp_ok).addC cnt_ok
theorem cnl_ok : CTok Tryd.prog 29 cnlC := C1_ok cxg_ok Tryd.func29 rfl (by decide) dStr_eq.ok (by kernel_rfl) (fun _ => rfl) fun s hc => exv (cnlV_eq s) (cnl_v s (hc _ (by simp)))
end Go.Proofs.YtaglpckihegmoaaDoorAv
namespace Go.Proofs.YtaglpckihegmoaaDoorAv
open Go Go.RowKit
structure Lnk where
 live : Bool
 gen : Int
 dom : Sq ByteArray
 dft : Bool
 ll : Bool
 srv : Sq (List XV)
 loc : Sq (List XV)
def domX (q : Sq ByteArray) : XV := .fz q.n 1 fun j => [XT (q.g j)]
def rawX (sz : Nat) (q : Sq (List XV)) : XV := .fz q.n sz q.g
def lnkX (k : Lnk) : List XV := [XB k.live, XI k.gen, domX k.dom, XB k.dft, XB k.ll, rawX 16 k.srv, rawX 18 k.loc]
def dRaw (sz : Nat) : Dc (Sq (List XV)) := ⟨fun x => match x with
 | .fz n s f => match Nat.beq s sz with
  | true => some ([], ⟨n, f⟩)
  | false => none
 | x => match nilO x with
  | true => some ([], ⟨0, fun _ => []⟩)
  | false => none, rawX sz⟩
theorem dRaw_ok {sz : Nat} : DcOk (dRaw sz) := fun x cs a h hc => by
 simp only [dRaw] at h
 split at h
 ·split at h
  ·rename_i hb
   rw [beqN, decide_eq_true_eq] at hb
   simp only [Option.some.injEq, Prod.mk.injEq] at h
   obtain ⟨rfl, rfl⟩ := h
   subst hb
   exact ⟨rfl, rfl, fun L w z hz => hz⟩
  ·cases h
 ·split at h
  ·rename_i hn
   simp only [Option.some.injEq, Prod.mk.injEq] at h
   obtain ⟨-, rfl⟩ := h
   rw [nilO_eq hn]
   refine ⟨rfl, rfl, fun L w z hz => ?_⟩
   simp only [toAV, VS] at hz
   rw [hz]
   exact VS_fz0 _ _
  ·cases h
def dDom : Dc (Sq ByteArray) := dSl 1 (fun l => strD (xget l 0)) (fun s => [XT s]) ⟨#[]⟩
def lnkD : List XV → Option (List Prop × Lnk)
 | [a, b, c, d, e, f, g] => match boolO a, intO b, dDom.dec c, boolO d, boolO e, (dRaw 16).dec f, (dRaw 18).dec g with
  | some a, some b, some (p, c), some d, some e, some (q, f), some (r, g) => some (p ++ (q ++ r), ⟨a, b, c, d, e, f, g⟩)
  | _, _, _, _, _, _, _ => none
 | _ => none
def dLk : Dc Lnk := ⟨fun x => match x with
 | .agg l => lnkD l
 | _ => none, fun k => .agg (lnkX k)⟩
def undN (a b : List ByteArray) : Nat → Bool
 | 0 => true
 | i + 1 => undN a b i && decide (a.getD (a.length - b.length + i) ⟨#[]⟩ = b.getD i ⟨#[]⟩)
def undL (a b : List ByteArray) : Bool := decide (b.length ≤ a.length) && undN a b b.length
def undB (s d : ByteArray) : Bool := decide (d = ptT) || undL (splitS (lowT s) ptT) (splitS (lowT d) ptT)
def rgtD (d : ByteArray) : Bool := decide (d = ptT) || (decide ((toA d).2 = 0) && decide ((toA d).1 = d))
def rgtN (g : Nat → ByteArray) : Nat → Bool
 | 0 => true
 | i + 1 => rgtN g i && rgtD (g i)
def rgtK (k : Lnk) : Bool := (decide (k.dom.n ≤ 4) && (decide (k.srv.n ≤ 3) && decide (k.loc.n ≤ 4))) && rgtN k.dom.g k.dom.n
def shtN (g : Nat → ByteArray) (b : Nat) : Nat → Nat
 | 0 => b
 | i + 1 => shtN g b i + (g i).size
def w64 (i : Int) : Int := IntKind.i64.wrap i
def shwN (g : Nat → ByteArray) (b : Int) : Nat → Int
 | 0 => b
 | i + 1 => w64 (shwN g b i + (g i).size)
def swB (k : Lnk) : Int := w64 (w64 ((k.dom.n : Int) + k.srv.n) + k.loc.n)
def shwK (k : Lnk) : Int := shwN k.dom.g (swB k) k.dom.n
def shtK (k : Lnk) : Nat := shtN k.dom.g (k.dom.n + k.srv.n + k.loc.n) k.dom.n
def cxlA : Cx := { cx0 with C := [(32, lowC), (31, lspC)] }
def cxlB : Cx := { cx0 with C := [(30, toAC)] }
def cxlW : Cx := { cx0 with W := true }
def undI (a b : List ByteArray) : Inv where
 σ := IL
 S := fun x => ⟨[(5, strsL a), (6, strsL b), (22, strsL b), (23, XI b.length), (24, XI x.i)], [], 0, false, []⟩
 inv := fun x => x.i ≤ b.length ∧ b.length ≤ a.length ∧ undN a b x.i = true
 μ := fun x => b.length - x.i
def undE (s d : ByteArray) : Env := { loops := [(0, undI (splitS (lowT s) ptT) (splitS (lowT d) ptT))] }
def rkI (k : Lnk) : Inv where
 σ := IL
 S := fun x => ⟨[(24, domX k.dom), (25, XI k.dom.n), (26, XI x.i)], [], 1, false, []⟩
 inv := fun x => x.i ≤ k.dom.n ∧ k.dom.n ≤ 4 ∧ rgtN k.dom.g x.i = true
 μ := fun x => k.dom.n - x.i
def rkE (k : Lnk) : Env := { loops := [(0, rkI k)] }
def shI (k : Lnk) : Inv where
 σ := IL
 S := fun x => ⟨[(3, XI (shwN k.dom.g (swB k) x.i)), (18, domX k.dom), (19, XI k.dom.n), (20, XI x.i)], [], 1, false, []⟩
 inv := fun x => x.i ≤ k.dom.n
 μ := fun x => k.dom.n - x.i
def shE (k : Lnk) : Env := { loops := [(0, shI k)] }
def unV (s d : ByteArray) : Prop :=
 (decide (d = ⟨#[46]⟩) = true → true = undB s d) ∧ (decide (d = ⟨#[46]⟩) = false → s.size ≤ (1000000000 : Nat) ∧ (lowT s).size ≤ (1000000000 : Nat) ∧ d.size ≤ (1000000000 : Nat) ∧ (lowT d).size ≤ (1000000000 : Nat) ∧ (decide ((↑(splitS (lowT d) ⟨#[46]⟩).length : Int) > (↑(splitS (lowT s) ⟨#[46]⟩).length : Int)) = true → false = undB s d) ∧ (decide ((↑(splitS (lowT d) ⟨#[46]⟩).length : Int) > (↑(splitS (lowT s) ⟨#[46]⟩).length : Int)) = false → (∃ (x : (undI (splitS (lowT s) ptT) (splitS (lowT d) ptT)).σ), (x.i ≤ (splitS (lowT d) ⟨#[46]⟩).length ∧ (splitS (lowT d) ⟨#[46]⟩).length ≤ (splitS (lowT s) ⟨#[46]⟩).length ∧ undN (splitS (lowT s) ⟨#[46]⟩) (splitS (lowT d) ⟨#[46]⟩) x.i = true) ∧ true = true ∧ ((XV.fz (splitS (lowT s) ⟨#[46]⟩).length 1 fun (i : Nat) => [XT ((splitS (lowT s) ⟨#[46]⟩).getD i ⟨#[]⟩)]) = XV.fz (splitS (lowT s) ⟨#[46]⟩).length 1 fun (i : Nat) => [XT ((splitS (lowT s) ⟨#[46]⟩).getD i ⟨#[]⟩)]) ∧ ((XV.fz (splitS (lowT d) ⟨#[46]⟩).length 1 fun (i : Nat) => [XT ((splitS (lowT d) ⟨#[46]⟩).getD i ⟨#[]⟩)]) = XV.fz (splitS (lowT d) ⟨#[46]⟩).length 1 fun (i : Nat) => [XT ((splitS (lowT d) ⟨#[46]⟩).getD i ⟨#[]⟩)]) ∧ ((XV.fz (splitS (lowT d) ⟨#[46]⟩).length 1 fun (i : Nat) => [XT ((splitS (lowT d) ⟨#[46]⟩).getD i ⟨#[]⟩)]) = XV.fz (splitS (lowT d) ⟨#[46]⟩).length 1 fun (i : Nat) => [XT ((splitS (lowT d) ⟨#[46]⟩).getD i ⟨#[]⟩)]) ∧ (↑(splitS (lowT d) ⟨#[46]⟩).length : Int) = (↑(splitS (lowT d) ⟨#[46]⟩).length : Int) ∧ (0 : Int) = (↑x.i : Int) ∧ True) ∧ ∀ (x : IL), x.i ≤ (splitS (lowT d) ⟨#[46]⟩).length ∧ (splitS (lowT d) ⟨#[46]⟩).length ≤ (splitS (lowT s) ⟨#[46]⟩).length ∧ undN (splitS (lowT s) ⟨#[46]⟩) (splitS (lowT d) ⟨#[46]⟩) x.i = true → (decide ((↑x.i : Int) < (↑(splitS (lowT d) ⟨#[46]⟩).length : Int)) = true → (0 : Int) ≤ (↑x.i : Int) ∧ (↑x.i : Int) < (↑(splitS (lowT d) ⟨#[46]⟩).length : Int) ∧ in64 ((↑(splitS (lowT s) ⟨#[46]⟩).length : Int) - (↑(splitS (lowT d) ⟨#[46]⟩).length : Int)) ∧ in64 ((↑(splitS (lowT s) ⟨#[46]⟩).length : Int) - (↑(splitS (lowT d) ⟨#[46]⟩).length : Int) + (↑x.i : Int)) ∧ (0 : Int) ≤ (↑(splitS (lowT s) ⟨#[46]⟩).length : Int) - (↑(splitS (lowT d) ⟨#[46]⟩).length : Int) + (↑x.i : Int) ∧ (↑(splitS (lowT s) ⟨#[46]⟩).length : Int) - (↑(splitS (lowT d) ⟨#[46]⟩).length : Int) + (↑x.i : Int) < (↑(splitS (lowT s) ⟨#[46]⟩).length : Int) ∧ ((!decide ((splitS (lowT s) ⟨#[46]⟩).getD ((↑(splitS (lowT s) ⟨#[46]⟩).length : Int) - (↑(splitS (lowT d) ⟨#[46]⟩).length : Int) + (↑x.i : Int)).toNat ⟨#[]⟩ = (splitS (lowT d) ⟨#[46]⟩).getD (↑x.i : Int).toNat ⟨#[]⟩)) = true → false = undB s d) ∧ ((!decide ((splitS (lowT s) ⟨#[46]⟩).getD ((↑(splitS (lowT s) ⟨#[46]⟩).length : Int) - (↑(splitS (lowT d) ⟨#[46]⟩).length : Int) + (↑x.i : Int)).toNat ⟨#[]⟩ = (splitS (lowT d) ⟨#[46]⟩).getD (↑x.i : Int).toNat ⟨#[]⟩)) = false → in64 ((↑x.i : Int) + (1 : Int)) ∧ ∃ (x' : (undI (splitS (lowT s) ptT) (splitS (lowT d) ptT)).σ), (x'.i ≤ (splitS (lowT d) ⟨#[46]⟩).length ∧ (splitS (lowT d) ⟨#[46]⟩).length ≤ (splitS (lowT s) ⟨#[46]⟩).length ∧ undN (splitS (lowT s) ⟨#[46]⟩) (splitS (lowT d) ⟨#[46]⟩) x'.i = true) ∧ (splitS (lowT d) ⟨#[46]⟩).length - x'.i < (splitS (lowT d) ⟨#[46]⟩).length - x.i ∧ true = true ∧ ((XV.fz (splitS (lowT s) ⟨#[46]⟩).length 1 fun (i : Nat) => [XT ((splitS (lowT s) ⟨#[46]⟩).getD i ⟨#[]⟩)]) = XV.fz (splitS (lowT s) ⟨#[46]⟩).length 1 fun (i : Nat) => [XT ((splitS (lowT s) ⟨#[46]⟩).getD i ⟨#[]⟩)]) ∧ ((XV.fz (splitS (lowT d) ⟨#[46]⟩).length 1 fun (i : Nat) => [XT ((splitS (lowT d) ⟨#[46]⟩).getD i ⟨#[]⟩)]) = XV.fz (splitS (lowT d) ⟨#[46]⟩).length 1 fun (i : Nat) => [XT ((splitS (lowT d) ⟨#[46]⟩).getD i ⟨#[]⟩)]) ∧ ((XV.fz (splitS (lowT d) ⟨#[46]⟩).length 1 fun (i : Nat) => [XT ((splitS (lowT d) ⟨#[46]⟩).getD i ⟨#[]⟩)]) = XV.fz (splitS (lowT d) ⟨#[46]⟩).length 1 fun (i : Nat) => [XT ((splitS (lowT d) ⟨#[46]⟩).getD i ⟨#[]⟩)]) ∧ (↑(splitS (lowT d) ⟨#[46]⟩).length : Int) = (↑(splitS (lowT d) ⟨#[46]⟩).length : Int) ∧ (↑x.i : Int) + (1 : Int) = (↑x'.i : Int) ∧ True)) ∧ (decide ((↑x.i : Int) < (↑(splitS (lowT d) ⟨#[46]⟩).length : Int)) = false → true = undB s d)))
theorem unV_eq (s d : ByteArray) : unV s d = (funC cxlA Tryd.f15 (mkSc (undE s d) (bodyOf Tryd.f15)) [XT s, XT d] (XB (undB s d))) := by kernel_rfl
def rkV (k : Lnk) : Prop :=
 ((decide ((↑k.dom.n : Int) > (4 : Int)) || decide ((↑k.srv.n : Int) > (3 : Int)) || decide ((↑k.loc.n : Int) > (4 : Int))) = true → false = rgtK k) ∧ ((decide ((↑k.dom.n : Int) > (4 : Int)) || decide ((↑k.srv.n : Int) > (3 : Int)) || decide ((↑k.loc.n : Int) > (4 : Int))) = false → (∃ (x : (rkI k).σ), (x.i ≤ k.dom.n ∧ k.dom.n ≤ (4 : Nat) ∧ rgtN k.dom.g x.i = true) ∧ true = true ∧ ((XV.fz k.dom.n 1 fun (j : Nat) => [XT (k.dom.g j)]) = XV.fz k.dom.n 1 fun (j : Nat) => [XT (k.dom.g j)]) ∧ (↑k.dom.n : Int) = (↑k.dom.n : Int) ∧ (0 : Int) = (↑x.i : Int) ∧ True) ∧ ∀ (x : IL), x.i ≤ k.dom.n ∧ k.dom.n ≤ (4 : Nat) ∧ rgtN k.dom.g x.i = true → (decide ((↑x.i : Int) < (↑k.dom.n : Int)) = true → (0 : Int) ≤ (↑x.i : Int) ∧ (↑x.i : Int) < (↑k.dom.n : Int) ∧ ((!decide (k.dom.g (↑x.i : Int).toNat = ⟨#[46]⟩) && ((toA (k.dom.g (↑x.i : Int).toNat)).snd != (0 : Int) || !decide ((toA (k.dom.g (↑x.i : Int).toNat)).fst = k.dom.g (↑x.i : Int).toNat))) = true → false = rgtK k) ∧ ((!decide (k.dom.g (↑x.i : Int).toNat = ⟨#[46]⟩) && ((toA (k.dom.g (↑x.i : Int).toNat)).snd != (0 : Int) || !decide ((toA (k.dom.g (↑x.i : Int).toNat)).fst = k.dom.g (↑x.i : Int).toNat))) = false → in64 ((↑x.i : Int) + (1 : Int)) ∧ ∃ (x' : (rkI k).σ), (x'.i ≤ k.dom.n ∧ k.dom.n ≤ (4 : Nat) ∧ rgtN k.dom.g x'.i = true) ∧ k.dom.n - x'.i < k.dom.n - x.i ∧ true = true ∧ ((XV.fz k.dom.n 1 fun (j : Nat) => [XT (k.dom.g j)]) = XV.fz k.dom.n 1 fun (j : Nat) => [XT (k.dom.g j)]) ∧ (↑k.dom.n : Int) = (↑k.dom.n : Int) ∧ (↑x.i : Int) + (1 : Int) = (↑x'.i : Int) ∧ True)) ∧ (decide ((↑x.i : Int) < (↑k.dom.n : Int)) = false → true = rgtK k))
theorem rkV_eq (k : Lnk) : rkV k = (funC cxlB Tryd.f23 (mkSc (rkE k) (bodyOf Tryd.f23)) [.agg (lnkX k)] (XB (rgtK k))) := by kernel_rfl
def shV (k : Lnk) : Prop :=
 (∃ (x : (shI k).σ), x.i.le k.dom.n ∧ true = true ∧ IntKind.i64.wrap (IntKind.i64.wrap ((↑k.dom.n : Int) + (↑k.srv.n : Int)) + (↑k.loc.n : Int)) = shwN k.dom.g (swB k) x.i ∧ ((XV.fz k.dom.n 1 fun (j : Nat) => [XT (k.dom.g j)]) = XV.fz k.dom.n 1 fun (j : Nat) => [XT (k.dom.g j)]) ∧ (↑k.dom.n : Int) = (↑k.dom.n : Int) ∧ (0 : Int) = (↑x.i : Int) ∧ True) ∧ ∀ (x : IL), x.i.le k.dom.n → (decide ((↑x.i : Int) < (↑k.dom.n : Int)) = true → (0 : Int) ≤ (↑x.i : Int) ∧ (↑x.i : Int) < (↑k.dom.n : Int) ∧ ∃ (x' : (shI k).σ), x'.i.le k.dom.n ∧ k.dom.n - x'.i < k.dom.n - x.i ∧ true = true ∧ IntKind.i64.wrap (shwN k.dom.g (swB k) x.i + (↑(k.dom.g (↑x.i : Int).toNat).size : Int)) = shwN k.dom.g (swB k) x'.i ∧ ((XV.fz k.dom.n 1 fun (j : Nat) => [XT (k.dom.g j)]) = XV.fz k.dom.n 1 fun (j : Nat) => [XT (k.dom.g j)]) ∧ (↑k.dom.n : Int) = (↑k.dom.n : Int) ∧ IntKind.i64.wrap ((↑x.i : Int) + (1 : Int)) = (↑x'.i : Int) ∧ True) ∧ (decide ((↑x.i : Int) < (↑k.dom.n : Int)) = false → decide (shwN k.dom.g (swB k) x.i < (2000 : Int)) = decide (shwK k < (2000 : Int)))
theorem shV_eq (k : Lnk) : shV k = (funC cxlW Tryd.f10 (mkSc (shE k) (bodyOf Tryd.f10)) [.agg (lnkX k)] (XB (decide (shwK k < 2000)))) := by kernel_rfl
theorem undN_le (a b : List ByteArray) : ∀ n j, j ≤ n → undN a b n = true → undN a b j = true
  | 0, j, h, k => by obtain rfl : j = 0 := by omega
                     exact k
  | n + 1, j, h, k => by
    by_cases e : j = n + 1
    · rw [e]; exact k
    · rw [undN, Bool.and_eq_true] at k
      exact undN_le a b n j (by omega) k.1
theorem rgtN_le (g : Nat → ByteArray) : ∀ n j, j ≤ n → rgtN g n = true → rgtN g j = true
  | 0, j, h, k => by obtain rfl : j = 0 := by omega
                     exact k
  | n + 1, j, h, k => by
    by_cases e : j = n + 1
    · rw [e]; exact k
    · rw [rgtN, Bool.and_eq_true] at k
      exact rgtN_le g n j (by omega) k.1
theorem un_v (s d : ByteArray) (hs : s.size ≤ 1000000) (hd : d.size ≤ 1000000) : unV s d := by
 unfold unV
 have e1 := lowT_size s
 have e2 := lowT_size d
 have l1 := splitS_len (lowT s) 46
 have l2 := splitS_len (lowT d) 46
 refine ⟨fun h => ?_, fun h => ⟨by omega, by omega, by omega, by omega, fun h2 => ?_, fun h2 => ?_⟩⟩
 ·unfold undB
  rw [show decide (d = ptT) = true from h, Bool.true_or]
 ·have h2 := of_decide_eq_true h2
  have e : undL (splitS (lowT s) ptT) (splitS (lowT d) ptT) = false := by
   unfold undL
   rw [decide_eq_false (show ¬ (splitS (lowT d) ptT).length ≤ (splitS (lowT s) ptT).length from fun hh => by have hh : (splitS (lowT d) ⟨#[46]⟩).length ≤ (splitS (lowT s) ⟨#[46]⟩).length := hh; omega), Bool.false_and]
  unfold undB
  rw [show decide (d = ptT) = false from h, Bool.false_or, e]
 ·have h2 := of_decide_eq_false h2
  have hle : (splitS (lowT d) ⟨#[46]⟩).length ≤ (splitS (lowT s) ⟨#[46]⟩).length := by omega
  have e : undB s d = undN (splitS (lowT s) ⟨#[46]⟩) (splitS (lowT d) ⟨#[46]⟩) (splitS (lowT d) ⟨#[46]⟩).length := by
   unfold undB undL
   rw [show decide (d = ptT) = false from h, Bool.false_or, decide_eq_true (show (splitS (lowT d) ptT).length ≤ (splitS (lowT s) ptT).length from hle), Bool.true_and]
   rfl
  refine ⟨⟨⟨0⟩, ⟨Nat.zero_le _, hle, rfl⟩, by and_intros <;> first | rfl | trivial⟩, ?_⟩
  rintro ⟨i⟩ ⟨hi, -, hu⟩
  dsimp only at hi hu ⊢
  refine ⟨fun k => ?_, fun k => ?_⟩
  ·have k : (i : Int) < (splitS (lowT d) ⟨#[46]⟩).length := of_decide_eq_true k
   rw [Int.toNat_natCast, show (((splitS (lowT s) ⟨#[46]⟩).length : Int) - ((splitS (lowT d) ⟨#[46]⟩).length : Int) + (i : Int)).toNat = (splitS (lowT s) ⟨#[46]⟩).length - (splitS (lowT d) ⟨#[46]⟩).length + i by omega]
   have es : undN (splitS (lowT s) ⟨#[46]⟩) (splitS (lowT d) ⟨#[46]⟩) (i + 1) = (undN (splitS (lowT s) ⟨#[46]⟩) (splitS (lowT d) ⟨#[46]⟩) i && decide ((splitS (lowT s) ⟨#[46]⟩).getD ((splitS (lowT s) ⟨#[46]⟩).length - (splitS (lowT d) ⟨#[46]⟩).length + i) ⟨#[]⟩ = (splitS (lowT d) ⟨#[46]⟩).getD i ⟨#[]⟩)) := rfl
   refine ⟨by omega, k, by unfold in64; omega, by unfold in64; omega, by omega, by omega, fun h3 => ?_, fun h3 => ⟨by unfold in64; omega, ⟨i + 1⟩, ⟨by show i + 1 ≤ _; omega, hle, ?_⟩, by show _ - (i + 1) < _ - i; omega, by and_intros <;> first | rfl | trivial⟩⟩
   ·rw [Bool.not_eq_true'] at h3
    rw [e]
    cases ee : undN (splitS (lowT s) ⟨#[46]⟩) (splitS (lowT d) ⟨#[46]⟩) (splitS (lowT d) ⟨#[46]⟩).length with
    | false => rfl
    | true =>
     have := undN_le _ _ _ (i + 1) (by omega) ee
     rw [es, h3, Bool.and_false] at this
     exact this
   ·rw [Bool.not_eq_false'] at h3
    show undN _ _ (i + 1) = true
    rw [es, hu, h3]; rfl
  ·have k : ¬ (i : Int) < (splitS (lowT d) ⟨#[46]⟩).length := of_decide_eq_false k
   obtain rfl : i = (splitS (lowT d) ⟨#[46]⟩).length := by omega
   rw [e]; exact hu.symm
def undC : CT := C2 dStr dStr (fun s d => [s.size ≤ 1000000, d.size ≤ 1000000]) fun s d => XB (undB s d)
theorem und_ok : CTok Tryd.prog 15 undC := C2_ok ((cx0_ok.addC lsp_ok).addC low_ok) Tryd.func15 rfl (by decide) dStr_eq.ok dStr_eq.ok (by kernel_rfl) (fun _ _ => rfl) fun s d hc => exv (unV_eq s d) (un_v s d (hc _ (.head _)) (hc _ (.tail _ (.head _))))
theorem rk_v (k : Lnk) (hk : k.dom.n ≤ 4611686018427387904) : rkV k := by
 unfold rkV
 have hK : (decide ((k.dom.n : Int) > 4) || decide ((k.srv.n : Int) > 3) || decide ((k.loc.n : Int) > 4)) = !(decide (k.dom.n ≤ 4) && (decide (k.srv.n ≤ 3) && decide (k.loc.n ≤ 4))) := by
  rw [Bool.not_and, Bool.not_and, ← decide_not, ← decide_not, ← decide_not, ← Bool.or_assoc]
  congr 1
  ·congr 1
   ·exact decide_eq_decide.2 (by omega)
   ·exact decide_eq_decide.2 (by omega)
  ·exact decide_eq_decide.2 (by omega)
 rw [hK]
 refine ⟨fun h => ?_, fun h => ?_⟩
 ·rw [Bool.not_eq_true'] at h
  unfold rgtK
  rw [h]; rfl
 ·rw [Bool.not_eq_false'] at h
  have e : rgtK k = rgtN k.dom.g k.dom.n := by
   unfold rgtK
   rw [h]; rfl
  have hn : k.dom.n ≤ 4 := of_decide_eq_true (Bool.and_eq_true_iff.1 h).1
  refine ⟨⟨⟨0⟩, ⟨Nat.zero_le _, hn, rfl⟩, by and_intros <;> first | rfl | trivial⟩, ?_⟩
  rintro ⟨i⟩ ⟨hi, -, hu⟩
  dsimp only at hi hu ⊢
  have hR : (!decide (k.dom.g i = ⟨#[46]⟩) && ((toA (k.dom.g i)).2 != 0 || !decide ((toA (k.dom.g i)).1 = k.dom.g i))) = !rgtD (k.dom.g i) := by
   unfold rgtD
   rw [Bool.not_or, Bool.not_and]
   have e0 : ((toA (k.dom.g i)).2 != 0) = !decide ((toA (k.dom.g i)).2 = 0) := by
    by_cases z : (toA (k.dom.g i)).2 = 0 <;> simp [z]
   rw [e0]
   rfl
  refine ⟨fun q => ?_, fun q => ?_⟩
  ·have q : (i : Int) < k.dom.n := of_decide_eq_true q
   rw [Int.toNat_natCast, hR]
   have es : rgtN k.dom.g (i + 1) = (rgtN k.dom.g i && rgtD (k.dom.g i)) := rfl
   refine ⟨by omega, q, fun h3 => ?_, fun h3 => ⟨by unfold in64; omega, ⟨i + 1⟩, ⟨by show i + 1 ≤ _; omega, hn, ?_⟩, by show _ - (i + 1) < _ - i; omega, by and_intros <;> first | rfl | trivial⟩⟩
   ·rw [Bool.not_eq_true'] at h3
    rw [e]
    cases ee : rgtN k.dom.g k.dom.n with
    | false => rfl
    | true =>
     have := rgtN_le _ _ (i + 1) (by omega) ee
     rw [es, h3, Bool.and_false] at this
     exact this
   ·rw [Bool.not_eq_false'] at h3
    show rgtN _ (i + 1) = true
    rw [es, hu, h3]; rfl
  ·have q : ¬ (i : Int) < k.dom.n := of_decide_eq_false q
   obtain rfl : i = k.dom.n := by omega
   rw [e]; exact hu.symm
theorem sh_v (k : Lnk) (h1 : k.dom.n ≤ 4611686018427387904) : shV k := by
 unfold shV
 refine ⟨⟨⟨0⟩, Nat.zero_le _, by and_intros <;> first | rfl | trivial⟩, ?_⟩
 rintro ⟨i⟩ hi
 have hi : i ≤ k.dom.n := hi
 dsimp only
 refine ⟨fun q => ?_, fun q => ?_⟩
 ·have q : (i : Int) < k.dom.n := of_decide_eq_true q
  rw [Int.toNat_natCast]
  refine ⟨by omega, q, ⟨i + 1⟩, (show i + 1 ≤ _ by omega), by show _ - (i + 1) < _ - i; omega, ?_⟩
  and_intros <;> first | rfl | trivial | (show IntKind.i64.wrap ((i : Int) + 1) = ((i + 1 : Nat) : Int); rw [wrap64_in (by omega) (by omega)]; rfl)
 ·have q : ¬ (i : Int) < k.dom.n := of_decide_eq_false q
  obtain rfl : i = k.dom.n := by omega
  rfl
theorem lnkD_ok {l : List XV} {cs : List Prop} {k : Lnk} (h : lnkD l = some (cs, k)) (hc : ∀ p ∈ cs, p) : pdL l = true ∧ pdL (lnkX k) = true ∧ ∀ L w zs, VSL L w (toAVL l) zs → VSL L w (toAVL (lnkX k)) zs := by
 unfold lnkD at h
 split at h
 ·split at h
  ·rename_i h1 h2 h3 h4 h5 h6 h7
   simp only [Option.some.injEq, Prod.mk.injEq] at h
   obtain ⟨rfl, rfl⟩ := h
   obtain ⟨c1, c2, c3⟩ := dSl_ok _ _ _ h3 (allL hc)
   obtain ⟨f1, f2, f3⟩ := dRaw_ok _ _ _ h6 (allL (allR hc))
   obtain ⟨g1, g2, g3⟩ := dRaw_ok _ _ _ h7 (allR (allR hc))
   rw [boolO_eq h1, intO_eq h2, boolO_eq h4, boolO_eq h5]
   refine ⟨by simp [pdL, c1, f1, g1, XV.pd], rfl, fun L w zs hz => ?_⟩
   match zs, hz with
   | [z1, z2, z3, z4, z5, z6, z7], hz =>
    simp only [toAVL, VSL, lnkX] at hz ⊢
    exact ⟨hz.1, hz.2.1, c3 L w z3 hz.2.2.1, hz.2.2.2.1, hz.2.2.2.2.1, f3 L w z6 hz.2.2.2.2.2.1, g3 L w z7 hz.2.2.2.2.2.2.1, trivial⟩
   | [], hz | [_], hz | [_, _], hz | [_, _, _], hz | [_, _, _, _], hz | [_, _, _, _, _], hz | [_, _, _, _, _, _], hz | _ :: _ :: _ :: _ :: _ :: _ :: _ :: _ :: _, hz => simp [toAVL, VSL] at hz
  ·cases h
 ·cases h
theorem dLk_ok : DcOk dLk := fun x cs k h hc => by
 simp only [dLk] at h
 split at h
 ·obtain ⟨a, b, c⟩ := lnkD_ok h hc
  refine ⟨by simpa [XV.pd] using a, by simpa [XV.pd, dLk] using b, fun L w z hz => ?_⟩
  simp only [toAV, dLk] at hz ⊢
  simp only [VS] at hz ⊢
  obtain ⟨vs, e, hv⟩ := hz
  exact ⟨vs, e, c L w _ hv⟩
 ·cases h
def rkC : CT := C1 dLk (fun k => [k.dom.n ≤ 4611686018427387904]) fun k => XB (rgtK k)
theorem rk_ok : CTok Tryd.prog 23 rkC := C1_ok (cx0_ok.addC toA_ok) Tryd.func23 rfl (by decide) dLk_ok (by kernel_rfl) (fun _ => rfl) fun k hc => exv (rkV_eq k) (rk_v k (hc _ (.head _)))
def shC : CT := C1 dLk (fun k => [k.dom.n ≤ 4611686018427387904]) fun k => XB (decide (shwK k < 2000))
theorem sh_ok : CTok Tryd.prog 10 shC := C1_ok (Cx.ok.setW cx0_ok true) Tryd.func10 rfl (by decide) dLk_ok (by kernel_rfl) (fun _ => rfl) fun k hc => exv (shV_eq k) (sh_v k (hc _ (.head _)))
end Go.Proofs.YtaglpckihegmoaaDoorAv
namespace Go.Proofs.YtaglpckihegmoaaDoorAv
open Go Go.RowKit Go.ChangeShapes Go.WideShapes
structure Lcl where
 a : Nat → Int
 d : Bool
 h : Bool
def lclX (c : Lcl) : List XV := [X8 (c.a 0), X8 (c.a 1), X8 (c.a 2), X8 (c.a 3), X8 (c.a 4), X8 (c.a 5), X8 (c.a 6), X8 (c.a 7), X8 (c.a 8), X8 (c.a 9), X8 (c.a 10), X8 (c.a 11), X8 (c.a 12), X8 (c.a 13), X8 (c.a 14), X8 (c.a 15), XB c.d, XB c.h]
theorem u8s_flat : ∀ (n : Nat) (ys : List (List XV)), ys.length = n → (∀ y ∈ ys, (∃ k, y = [X8 k] ∧ (Lit.int .u8 k).wf = true) ∧ y.length = 1) → ∃ f : Nat → Int, ys.flatten = (List.range n).map fun i => X8 (f i)
 | 0, [], _, _ => ⟨fun _ => 0, rfl⟩
 | n + 1, y :: ys, hl, h => by
  obtain ⟨⟨k, rfl, -⟩, -⟩ := h y (List.mem_cons_self ..)
  obtain ⟨f, hf⟩ := u8s_flat n ys (by simpa using hl) fun z hz => h z (List.mem_cons_of_mem _ hz)
  refine ⟨fun i => match i with | 0 => k | i + 1 => f i, ?_⟩
  rw [List.flatten_cons, hf, List.range_succ_eq_map, List.map_cons, List.map_map]
  rfl
theorem open_addr : Opens Tryd.prog 44 16 fun xs => ∃ f : Nat → Int, xs = (List.range 16).map fun i => X8 (f i) :=
 (opens_array Tryd.underlying44 (by kernel_rfl) (by kernel_rfl) rfl (opens_int Tryd.underlying5)).mono fun xs ⟨ys, e, hn, hy⟩ => by
  obtain ⟨f, hf⟩ := u8s_flat 16 ys hn hy
  exact ⟨f, e.trans hf⟩
theorem open_lcl : Opens Tryd.prog 46 18 fun xs => ∃ c : Lcl, xs = lclX c ∧ True :=
 (opens_struct Tryd.underlying46 (by kernel_rfl) [(16, fun xs => ∃ f : Nat → Int, xs = (List.range 16).map fun i => X8 (f i)), (1, fun xs => ∃ b, xs = [XB b]), (1, fun xs => ∃ b, xs = [XB b])] rfl rfl fun i c hi => by
  match i, hi with
  | 0, hi => obtain rfl := Option.some.inj hi; exact ⟨_, rfl, rfl, by kernel_rfl, open_addr⟩
  | 1, hi => obtain rfl := Option.some.inj hi; exact ⟨_, rfl, rfl, by kernel_rfl, opens_bool Tryd.underlying4⟩
  | 2, hi => obtain rfl := Option.some.inj hi; exact ⟨_, rfl, rfl, by kernel_rfl, opens_bool Tryd.underlying4⟩
  | i + 3, hi => simp at hi).mono fun xs ⟨ys, e, h⟩ => by
  cases h with
  | cons h1 h => cases h with
   | cons h2 h => cases h with
    | cons h3 h => cases h with
     | nil =>
      obtain ⟨⟨f, rfl⟩, -⟩ := h1
      obtain ⟨⟨b, rfl⟩, -⟩ := h2
      obtain ⟨⟨c, rfl⟩, -⟩ := h3
      exact ⟨⟨f, b, c⟩, e, trivial⟩
def Lnk.Fit (l : Lnk) : Prop := l.dom.n ≤ 8796093022208 ∧ (∀ j, j < l.dom.n → (l.dom.g j).size ≤ 140737488351232) ∧ ∃ c : Nat → Lcl, l.loc.g = fun j => lclX (c j)
theorem open_lnk : Opens Tryd.prog 26 7 fun xs => ∃ l : Lnk, xs = lnkX l ∧ l.Fit :=
 (opens_struct Tryd.underlying26 (by kernel_rfl) [(1, fun xs => ∃ b, xs = [XB b]), (1, fun xs => ∃ n, xs = [XI n] ∧ (Lit.int .i64 n).wf = true),
   (1, fun xs => ∃ q : Sq ByteArray, xs = [.fz q.n 1 fun i => [XT (q.g i)]] ∧ q.n * 16 ≤ 140737488351232 ∧ ∀ i, i < q.n → (q.g i).size ≤ 140737488351232), (1, fun xs => ∃ b, xs = [XB b]), (1, fun xs => ∃ b, xs = [XB b]),
   (1, fun xs => ∃ q : Sq (Nat → Int), xs = [.fz q.n 16 fun i => (List.range 16).map fun k => X8 (q.g i k)] ∧ q.n * 16 ≤ 140737488351232 ∧ ∀ i, i < q.n → True),
   (1, fun xs => ∃ q : Sq Lcl, xs = [.fz q.n 18 fun i => lclX (q.g i)] ∧ q.n * 18 ≤ 140737488351232 ∧ ∀ i, i < q.n → True)] rfl rfl fun i c hi => by
  match i, hi with
  | 0, hi => obtain rfl := Option.some.inj hi; exact ⟨_, rfl, rfl, by kernel_rfl, opens_bool Tryd.underlying4⟩
  | 1, hi => obtain rfl := Option.some.inj hi; exact ⟨_, rfl, rfl, by kernel_rfl, opens_int Tryd.underlying3⟩
  | 2, hi => obtain rfl := Option.some.inj hi; exact ⟨_, rfl, rfl, by kernel_rfl, opens_slice (fun s => [XT s]) (fun s => s.size ≤ 140737488351232) ⟨#[]⟩ Tryd.underlying22 (by kernel_rfl) (by decide) (by kernel_rfl) (opens_string Tryd.underlying9)⟩
  | 3, hi => obtain rfl := Option.some.inj hi; exact ⟨_, rfl, rfl, by kernel_rfl, opens_bool Tryd.underlying4⟩
  | 4, hi => obtain rfl := Option.some.inj hi; exact ⟨_, rfl, rfl, by kernel_rfl, opens_bool Tryd.underlying4⟩
  | 5, hi => obtain rfl := Option.some.inj hi; exact ⟨_, rfl, rfl, by kernel_rfl, opens_slice (fun f : Nat → Int => (List.range 16).map fun k => X8 (f k)) (fun _ => True) (fun _ => 0) Tryd.underlying23 (by kernel_rfl) (by decide) (by kernel_rfl) (open_addr.mono fun xs ⟨f, e⟩ => ⟨f, e, trivial⟩)⟩
  | 6, hi => obtain rfl := Option.some.inj hi; exact ⟨_, rfl, rfl, by kernel_rfl, opens_slice lclX (fun _ => True) ⟨fun _ => 0, false, false⟩ Tryd.underlying24 (by kernel_rfl) (by decide) (by kernel_rfl) open_lcl⟩
  | i + 7, hi => simp at hi).mono fun xs ⟨ys, e, h⟩ => by
  cases h with
  | cons h1 h => cases h with
   | cons h2 h => cases h with
    | cons h3 h => cases h with
     | cons h4 h => cases h with
      | cons h5 h => cases h with
       | cons h6 h => cases h with
        | cons h7 h => cases h with
         | nil =>
          obtain ⟨⟨a, rfl⟩, -⟩ := h1
          obtain ⟨⟨b, rfl, -⟩, -⟩ := h2
          obtain ⟨⟨c, rfl, c1, c2⟩, -⟩ := h3
          obtain ⟨⟨d, rfl⟩, -⟩ := h4
          obtain ⟨⟨f, rfl⟩, -⟩ := h5
          obtain ⟨⟨g, rfl, -, -⟩, -⟩ := h6
          obtain ⟨⟨k, rfl, -, -⟩, -⟩ := h7
          exact ⟨⟨a, b, c, d, f, ⟨g.n, fun i => (List.range 16).map fun j => X8 (g.g i j)⟩, ⟨k.n, fun i => lclX (k.g i)⟩⟩, e, Nat.le_of_mul_le_mul_right (show c.n * 16 ≤ 8796093022208 * 16 by omega) (by decide), c2, k.g, rfl⟩
end Go.Proofs.YtaglpckihegmoaaDoorAv
namespace Go.Proofs.YtaglpckihegmoaaDoorAv
open Go Go.RowKit
structure LTab where
 l0 : Lnk
 l1 : Lnk
 l2 : Lnk
 l3 : Lnk
 g : Int
def zLnk : Lnk := ⟨false, 0, ⟨0, fun _ => ⟨#[]⟩⟩, false, false, ⟨0, fun _ => []⟩, ⟨0, fun _ => []⟩⟩
def tab0 : LTab := ⟨zLnk, zLnk, zLnk, zLnk, 0⟩
def tabX (T : LTab) : List XV := lnkX T.l0 ++ (lnkX T.l1 ++ (lnkX T.l2 ++ (lnkX T.l3 ++ [.top, .top, .top, .top, XI T.g])))
def tabD (l : List XV) : Option (List Prop × LTab) := match Nat.beq (xlen l) 33, lnkD (l.take 7), lnkD ((l.drop 7).take 7), lnkD ((l.drop 14).take 7), lnkD ((l.drop 21).take 7), intO (xget l 32) with
 | true, some (p, a), some (q, b), some (r, c), some (s, d), some g => some (p ++ (q ++ (r ++ s)), ⟨a, b, c, d, g⟩)
 | _, _, _, _, _, _ => none
def dTab : DcT LTab := ⟨tabD, tabX⟩
def LTab.at (T : LTab) (i : Nat) : Lnk := if i = 0 then T.l0 else if i = 1 then T.l1 else if i = 2 then T.l2 else T.l3
def putT (T : LTab) (i : Int) (k : Lnk) (g : Int) : LTab := if i = 0 then ⟨k, T.l1, T.l2, T.l3, g⟩ else if i = 1 then ⟨T.l0, k, T.l2, T.l3, g⟩ else if i = 2 then ⟨T.l0, T.l1, k, T.l3, g⟩ else ⟨T.l0, T.l1, T.l2, k, g⟩
def inB (i : Int) : Bool := decide (0 ≤ i) && decide (i < 4)
def aliveK (k : Lnk) (g : Int) : Lnk := ⟨true, g, k.dom, k.dft, k.ll, k.srv, k.loc⟩
def setTb (T : LTab) (i : Int) (k : Lnk) : LTab := if inB i = true then if rgtK k = true then putT T i (aliveK k (T.g + 1)) (T.g + 1) else T else T
def setN (i : Int) (k : Lnk) : Int := if inB i = true then if rgtK k = true then 0 else 13 else 12
def cnwC : CT := C1 dInt (fun _ => []) fun i => .fp [XI (imin (imax i 0) 16), Xnil]
def cnwN : NT
 | [x] => match dInt.dec x with
  | some (p, a) => some (p, [XI (imin (imax a 0) 16), Xnil])
  | none => none
 | _ => none
def cxS : Cx := { cx0 with C := [(23, rkC), (28, cnwC)], K := true }
def stE : Env := { cas := [(10, (1, [0, 1, 2, 3]))] }
def cnwV (i : Int) : Prop :=
 ((77 : Nat) = (77 : TypeId) ∧ true = true) ∧ imin (imax i 0) 16 = imin (imax i 0) 16 ∧ Xnil = Xnil ∧ True
theorem cnwV_eq (i : Int) : cnwV i = (funN cx0 Tryd.f28 .nil [XI i] 77 [XI (imin (imax i 0) 16), Xnil]) := by kernel_rfl
def stV (T : LTab) (i : Int) (k : Lnk) (e : TypeId) (ap : Bool) : Prop :=
 ((decide (i < (0 : Int)) || decide (i ≥ (4 : Int))) = true → (12 : Int) = setN i k ∧ (e = e ∧ ap = ap) ∧ T.l0.live = (setTb T i k).l0.live ∧ T.l0.gen = (setTb T i k).l0.gen ∧ ((1 : Nat) = (1 : Nat) ∧ T.l0.dom.n = (setTb T i k).l0.dom.n ∧ ∀ (j : Nat), j < T.l0.dom.n → [XT (T.l0.dom.g j)] = [XT ((setTb T i k).l0.dom.g j)]) ∧ T.l0.dft = (setTb T i k).l0.dft ∧ T.l0.ll = (setTb T i k).l0.ll ∧ ((16 : Nat) = (16 : Nat) ∧ T.l0.srv.n = (setTb T i k).l0.srv.n ∧ ∀ (j : Nat), j < T.l0.srv.n → T.l0.srv.g j = (setTb T i k).l0.srv.g j) ∧ ((18 : Nat) = (18 : Nat) ∧ T.l0.loc.n = (setTb T i k).l0.loc.n ∧ ∀ (j : Nat), j < T.l0.loc.n → T.l0.loc.g j = (setTb T i k).l0.loc.g j) ∧ T.l1.live = (setTb T i k).l1.live ∧ T.l1.gen = (setTb T i k).l1.gen ∧ ((1 : Nat) = (1 : Nat) ∧ T.l1.dom.n = (setTb T i k).l1.dom.n ∧ ∀ (j : Nat), j < T.l1.dom.n → [XT (T.l1.dom.g j)] = [XT ((setTb T i k).l1.dom.g j)]) ∧ T.l1.dft = (setTb T i k).l1.dft ∧ T.l1.ll = (setTb T i k).l1.ll ∧ ((16 : Nat) = (16 : Nat) ∧ T.l1.srv.n = (setTb T i k).l1.srv.n ∧ ∀ (j : Nat), j < T.l1.srv.n → T.l1.srv.g j = (setTb T i k).l1.srv.g j) ∧ ((18 : Nat) = (18 : Nat) ∧ T.l1.loc.n = (setTb T i k).l1.loc.n ∧ ∀ (j : Nat), j < T.l1.loc.n → T.l1.loc.g j = (setTb T i k).l1.loc.g j) ∧ T.l2.live = (setTb T i k).l2.live ∧ T.l2.gen = (setTb T i k).l2.gen ∧ ((1 : Nat) = (1 : Nat) ∧ T.l2.dom.n = (setTb T i k).l2.dom.n ∧ ∀ (j : Nat), j < T.l2.dom.n → [XT (T.l2.dom.g j)] = [XT ((setTb T i k).l2.dom.g j)]) ∧ T.l2.dft = (setTb T i k).l2.dft ∧ T.l2.ll = (setTb T i k).l2.ll ∧ ((16 : Nat) = (16 : Nat) ∧ T.l2.srv.n = (setTb T i k).l2.srv.n ∧ ∀ (j : Nat), j < T.l2.srv.n → T.l2.srv.g j = (setTb T i k).l2.srv.g j) ∧ ((18 : Nat) = (18 : Nat) ∧ T.l2.loc.n = (setTb T i k).l2.loc.n ∧ ∀ (j : Nat), j < T.l2.loc.n → T.l2.loc.g j = (setTb T i k).l2.loc.g j) ∧ T.l3.live = (setTb T i k).l3.live ∧ T.l3.gen = (setTb T i k).l3.gen ∧ ((1 : Nat) = (1 : Nat) ∧ T.l3.dom.n = (setTb T i k).l3.dom.n ∧ ∀ (j : Nat), j < T.l3.dom.n → [XT (T.l3.dom.g j)] = [XT ((setTb T i k).l3.dom.g j)]) ∧ T.l3.dft = (setTb T i k).l3.dft ∧ T.l3.ll = (setTb T i k).l3.ll ∧ ((16 : Nat) = (16 : Nat) ∧ T.l3.srv.n = (setTb T i k).l3.srv.n ∧ ∀ (j : Nat), j < T.l3.srv.n → T.l3.srv.g j = (setTb T i k).l3.srv.g j) ∧ ((18 : Nat) = (18 : Nat) ∧ T.l3.loc.n = (setTb T i k).l3.loc.n ∧ ∀ (j : Nat), j < T.l3.loc.n → T.l3.loc.g j = (setTb T i k).l3.loc.g j) ∧ True ∧ True ∧ True ∧ True ∧ T.g = (setTb T i k).g ∧ True) ∧ ((decide (i < (0 : Int)) || decide (i ≥ (4 : Int))) = false → (∀ (i : Nat), i < k.dom.n → [XT (k.dom.g i)] = [XT (k.dom.g i)]) ∧ k.dom.n ≤ (4611686018427387904 : Nat) ∧ ((!rgtK k) = true → (13 : Int) = setN i k ∧ (e = e ∧ ap = ap) ∧ T.l0.live = (setTb T i k).l0.live ∧ T.l0.gen = (setTb T i k).l0.gen ∧ ((1 : Nat) = (1 : Nat) ∧ T.l0.dom.n = (setTb T i k).l0.dom.n ∧ ∀ (j : Nat), j < T.l0.dom.n → [XT (T.l0.dom.g j)] = [XT ((setTb T i k).l0.dom.g j)]) ∧ T.l0.dft = (setTb T i k).l0.dft ∧ T.l0.ll = (setTb T i k).l0.ll ∧ ((16 : Nat) = (16 : Nat) ∧ T.l0.srv.n = (setTb T i k).l0.srv.n ∧ ∀ (j : Nat), j < T.l0.srv.n → T.l0.srv.g j = (setTb T i k).l0.srv.g j) ∧ ((18 : Nat) = (18 : Nat) ∧ T.l0.loc.n = (setTb T i k).l0.loc.n ∧ ∀ (j : Nat), j < T.l0.loc.n → T.l0.loc.g j = (setTb T i k).l0.loc.g j) ∧ T.l1.live = (setTb T i k).l1.live ∧ T.l1.gen = (setTb T i k).l1.gen ∧ ((1 : Nat) = (1 : Nat) ∧ T.l1.dom.n = (setTb T i k).l1.dom.n ∧ ∀ (j : Nat), j < T.l1.dom.n → [XT (T.l1.dom.g j)] = [XT ((setTb T i k).l1.dom.g j)]) ∧ T.l1.dft = (setTb T i k).l1.dft ∧ T.l1.ll = (setTb T i k).l1.ll ∧ ((16 : Nat) = (16 : Nat) ∧ T.l1.srv.n = (setTb T i k).l1.srv.n ∧ ∀ (j : Nat), j < T.l1.srv.n → T.l1.srv.g j = (setTb T i k).l1.srv.g j) ∧ ((18 : Nat) = (18 : Nat) ∧ T.l1.loc.n = (setTb T i k).l1.loc.n ∧ ∀ (j : Nat), j < T.l1.loc.n → T.l1.loc.g j = (setTb T i k).l1.loc.g j) ∧ T.l2.live = (setTb T i k).l2.live ∧ T.l2.gen = (setTb T i k).l2.gen ∧ ((1 : Nat) = (1 : Nat) ∧ T.l2.dom.n = (setTb T i k).l2.dom.n ∧ ∀ (j : Nat), j < T.l2.dom.n → [XT (T.l2.dom.g j)] = [XT ((setTb T i k).l2.dom.g j)]) ∧ T.l2.dft = (setTb T i k).l2.dft ∧ T.l2.ll = (setTb T i k).l2.ll ∧ ((16 : Nat) = (16 : Nat) ∧ T.l2.srv.n = (setTb T i k).l2.srv.n ∧ ∀ (j : Nat), j < T.l2.srv.n → T.l2.srv.g j = (setTb T i k).l2.srv.g j) ∧ ((18 : Nat) = (18 : Nat) ∧ T.l2.loc.n = (setTb T i k).l2.loc.n ∧ ∀ (j : Nat), j < T.l2.loc.n → T.l2.loc.g j = (setTb T i k).l2.loc.g j) ∧ T.l3.live = (setTb T i k).l3.live ∧ T.l3.gen = (setTb T i k).l3.gen ∧ ((1 : Nat) = (1 : Nat) ∧ T.l3.dom.n = (setTb T i k).l3.dom.n ∧ ∀ (j : Nat), j < T.l3.dom.n → [XT (T.l3.dom.g j)] = [XT ((setTb T i k).l3.dom.g j)]) ∧ T.l3.dft = (setTb T i k).l3.dft ∧ T.l3.ll = (setTb T i k).l3.ll ∧ ((16 : Nat) = (16 : Nat) ∧ T.l3.srv.n = (setTb T i k).l3.srv.n ∧ ∀ (j : Nat), j < T.l3.srv.n → T.l3.srv.g j = (setTb T i k).l3.srv.g j) ∧ ((18 : Nat) = (18 : Nat) ∧ T.l3.loc.n = (setTb T i k).l3.loc.n ∧ ∀ (j : Nat), j < T.l3.loc.n → T.l3.loc.g j = (setTb T i k).l3.loc.g j) ∧ True ∧ True ∧ True ∧ True ∧ T.g = (setTb T i k).g ∧ True) ∧ ((!rgtK k) = false → in64 (T.g + (1 : Int)) ∧ k.dom.n * (16 : Nat) ≤ (140737488355328 : Nat) ∧ k.dom.n ≤ (140737488355328 : Nat) ∧ k.srv.n * (16 : Nat) ≤ (140737488355328 : Nat) ∧ k.srv.n ≤ (140737488355328 : Nat) ∧ k.loc.n * (18 : Nat) ≤ (140737488355328 : Nat) ∧ k.loc.n ≤ (140737488355328 : Nat) ∧ (i = (0 : Int) ∨ i = (1 : Int) ∨ i = (2 : Int) ∨ i = (3 : Int) ∨ False) ∧ (i = (0 : Int) → (0 : Int) ≤ (0 : Int) ∧ (0 : Int) < (↑(4 : Nat) : Int) ∧ (0 : Int) ≤ (0 : Int) ∧ (0 : Int) < (↑(4 : Nat) : Int) ∧ (0 : Int) = setN i k ∧ (e = e ∧ ap = ap) ∧ true = (setTb T i k).l0.live ∧ T.g + (1 : Int) = (setTb T i k).l0.gen ∧ ((1 : Nat) = (1 : Nat) ∧ k.dom.n = (setTb T i k).l0.dom.n ∧ ∀ (j : Nat), j < k.dom.n → [XT (k.dom.g j)] = [XT ((setTb T i k).l0.dom.g j)]) ∧ k.dft = (setTb T i k).l0.dft ∧ k.ll = (setTb T i k).l0.ll ∧ ((16 : Nat) = (16 : Nat) ∧ k.srv.n = (setTb T i k).l0.srv.n ∧ ∀ (j : Nat), j < k.srv.n → k.srv.g j = (setTb T i k).l0.srv.g j) ∧ ((18 : Nat) = (18 : Nat) ∧ k.loc.n = (setTb T i k).l0.loc.n ∧ ∀ (j : Nat), j < k.loc.n → k.loc.g j = (setTb T i k).l0.loc.g j) ∧ T.l1.live = (setTb T i k).l1.live ∧ T.l1.gen = (setTb T i k).l1.gen ∧ ((1 : Nat) = (1 : Nat) ∧ T.l1.dom.n = (setTb T i k).l1.dom.n ∧ ∀ (j : Nat), j < T.l1.dom.n → [XT (T.l1.dom.g j)] = [XT ((setTb T i k).l1.dom.g j)]) ∧ T.l1.dft = (setTb T i k).l1.dft ∧ T.l1.ll = (setTb T i k).l1.ll ∧ ((16 : Nat) = (16 : Nat) ∧ T.l1.srv.n = (setTb T i k).l1.srv.n ∧ ∀ (j : Nat), j < T.l1.srv.n → T.l1.srv.g j = (setTb T i k).l1.srv.g j) ∧ ((18 : Nat) = (18 : Nat) ∧ T.l1.loc.n = (setTb T i k).l1.loc.n ∧ ∀ (j : Nat), j < T.l1.loc.n → T.l1.loc.g j = (setTb T i k).l1.loc.g j) ∧ T.l2.live = (setTb T i k).l2.live ∧ T.l2.gen = (setTb T i k).l2.gen ∧ ((1 : Nat) = (1 : Nat) ∧ T.l2.dom.n = (setTb T i k).l2.dom.n ∧ ∀ (j : Nat), j < T.l2.dom.n → [XT (T.l2.dom.g j)] = [XT ((setTb T i k).l2.dom.g j)]) ∧ T.l2.dft = (setTb T i k).l2.dft ∧ T.l2.ll = (setTb T i k).l2.ll ∧ ((16 : Nat) = (16 : Nat) ∧ T.l2.srv.n = (setTb T i k).l2.srv.n ∧ ∀ (j : Nat), j < T.l2.srv.n → T.l2.srv.g j = (setTb T i k).l2.srv.g j) ∧ ((18 : Nat) = (18 : Nat) ∧ T.l2.loc.n = (setTb T i k).l2.loc.n ∧ ∀ (j : Nat), j < T.l2.loc.n → T.l2.loc.g j = (setTb T i k).l2.loc.g j) ∧ T.l3.live = (setTb T i k).l3.live ∧ T.l3.gen = (setTb T i k).l3.gen ∧ ((1 : Nat) = (1 : Nat) ∧ T.l3.dom.n = (setTb T i k).l3.dom.n ∧ ∀ (j : Nat), j < T.l3.dom.n → [XT (T.l3.dom.g j)] = [XT ((setTb T i k).l3.dom.g j)]) ∧ T.l3.dft = (setTb T i k).l3.dft ∧ T.l3.ll = (setTb T i k).l3.ll ∧ ((16 : Nat) = (16 : Nat) ∧ T.l3.srv.n = (setTb T i k).l3.srv.n ∧ ∀ (j : Nat), j < T.l3.srv.n → T.l3.srv.g j = (setTb T i k).l3.srv.g j) ∧ ((18 : Nat) = (18 : Nat) ∧ T.l3.loc.n = (setTb T i k).l3.loc.n ∧ ∀ (j : Nat), j < T.l3.loc.n → T.l3.loc.g j = (setTb T i k).l3.loc.g j) ∧ True ∧ True ∧ True ∧ True ∧ T.g + (1 : Int) = (setTb T i k).g ∧ True) ∧ (i = (1 : Int) → (0 : Int) ≤ (1 : Int) ∧ (1 : Int) < (↑(4 : Nat) : Int) ∧ (0 : Int) ≤ (1 : Int) ∧ (1 : Int) < (↑(4 : Nat) : Int) ∧ (0 : Int) = setN i k ∧ (e = e ∧ ap = ap) ∧ T.l0.live = (setTb T i k).l0.live ∧ T.l0.gen = (setTb T i k).l0.gen ∧ ((1 : Nat) = (1 : Nat) ∧ T.l0.dom.n = (setTb T i k).l0.dom.n ∧ ∀ (j : Nat), j < T.l0.dom.n → [XT (T.l0.dom.g j)] = [XT ((setTb T i k).l0.dom.g j)]) ∧ T.l0.dft = (setTb T i k).l0.dft ∧ T.l0.ll = (setTb T i k).l0.ll ∧ ((16 : Nat) = (16 : Nat) ∧ T.l0.srv.n = (setTb T i k).l0.srv.n ∧ ∀ (j : Nat), j < T.l0.srv.n → T.l0.srv.g j = (setTb T i k).l0.srv.g j) ∧ ((18 : Nat) = (18 : Nat) ∧ T.l0.loc.n = (setTb T i k).l0.loc.n ∧ ∀ (j : Nat), j < T.l0.loc.n → T.l0.loc.g j = (setTb T i k).l0.loc.g j) ∧ true = (setTb T i k).l1.live ∧ T.g + (1 : Int) = (setTb T i k).l1.gen ∧ ((1 : Nat) = (1 : Nat) ∧ k.dom.n = (setTb T i k).l1.dom.n ∧ ∀ (j : Nat), j < k.dom.n → [XT (k.dom.g j)] = [XT ((setTb T i k).l1.dom.g j)]) ∧ k.dft = (setTb T i k).l1.dft ∧ k.ll = (setTb T i k).l1.ll ∧ ((16 : Nat) = (16 : Nat) ∧ k.srv.n = (setTb T i k).l1.srv.n ∧ ∀ (j : Nat), j < k.srv.n → k.srv.g j = (setTb T i k).l1.srv.g j) ∧ ((18 : Nat) = (18 : Nat) ∧ k.loc.n = (setTb T i k).l1.loc.n ∧ ∀ (j : Nat), j < k.loc.n → k.loc.g j = (setTb T i k).l1.loc.g j) ∧ T.l2.live = (setTb T i k).l2.live ∧ T.l2.gen = (setTb T i k).l2.gen ∧ ((1 : Nat) = (1 : Nat) ∧ T.l2.dom.n = (setTb T i k).l2.dom.n ∧ ∀ (j : Nat), j < T.l2.dom.n → [XT (T.l2.dom.g j)] = [XT ((setTb T i k).l2.dom.g j)]) ∧ T.l2.dft = (setTb T i k).l2.dft ∧ T.l2.ll = (setTb T i k).l2.ll ∧ ((16 : Nat) = (16 : Nat) ∧ T.l2.srv.n = (setTb T i k).l2.srv.n ∧ ∀ (j : Nat), j < T.l2.srv.n → T.l2.srv.g j = (setTb T i k).l2.srv.g j) ∧ ((18 : Nat) = (18 : Nat) ∧ T.l2.loc.n = (setTb T i k).l2.loc.n ∧ ∀ (j : Nat), j < T.l2.loc.n → T.l2.loc.g j = (setTb T i k).l2.loc.g j) ∧ T.l3.live = (setTb T i k).l3.live ∧ T.l3.gen = (setTb T i k).l3.gen ∧ ((1 : Nat) = (1 : Nat) ∧ T.l3.dom.n = (setTb T i k).l3.dom.n ∧ ∀ (j : Nat), j < T.l3.dom.n → [XT (T.l3.dom.g j)] = [XT ((setTb T i k).l3.dom.g j)]) ∧ T.l3.dft = (setTb T i k).l3.dft ∧ T.l3.ll = (setTb T i k).l3.ll ∧ ((16 : Nat) = (16 : Nat) ∧ T.l3.srv.n = (setTb T i k).l3.srv.n ∧ ∀ (j : Nat), j < T.l3.srv.n → T.l3.srv.g j = (setTb T i k).l3.srv.g j) ∧ ((18 : Nat) = (18 : Nat) ∧ T.l3.loc.n = (setTb T i k).l3.loc.n ∧ ∀ (j : Nat), j < T.l3.loc.n → T.l3.loc.g j = (setTb T i k).l3.loc.g j) ∧ True ∧ True ∧ True ∧ True ∧ T.g + (1 : Int) = (setTb T i k).g ∧ True) ∧ (i = (2 : Int) → (0 : Int) ≤ (2 : Int) ∧ (2 : Int) < (↑(4 : Nat) : Int) ∧ (0 : Int) ≤ (2 : Int) ∧ (2 : Int) < (↑(4 : Nat) : Int) ∧ (0 : Int) = setN i k ∧ (e = e ∧ ap = ap) ∧ T.l0.live = (setTb T i k).l0.live ∧ T.l0.gen = (setTb T i k).l0.gen ∧ ((1 : Nat) = (1 : Nat) ∧ T.l0.dom.n = (setTb T i k).l0.dom.n ∧ ∀ (j : Nat), j < T.l0.dom.n → [XT (T.l0.dom.g j)] = [XT ((setTb T i k).l0.dom.g j)]) ∧ T.l0.dft = (setTb T i k).l0.dft ∧ T.l0.ll = (setTb T i k).l0.ll ∧ ((16 : Nat) = (16 : Nat) ∧ T.l0.srv.n = (setTb T i k).l0.srv.n ∧ ∀ (j : Nat), j < T.l0.srv.n → T.l0.srv.g j = (setTb T i k).l0.srv.g j) ∧ ((18 : Nat) = (18 : Nat) ∧ T.l0.loc.n = (setTb T i k).l0.loc.n ∧ ∀ (j : Nat), j < T.l0.loc.n → T.l0.loc.g j = (setTb T i k).l0.loc.g j) ∧ T.l1.live = (setTb T i k).l1.live ∧ T.l1.gen = (setTb T i k).l1.gen ∧ ((1 : Nat) = (1 : Nat) ∧ T.l1.dom.n = (setTb T i k).l1.dom.n ∧ ∀ (j : Nat), j < T.l1.dom.n → [XT (T.l1.dom.g j)] = [XT ((setTb T i k).l1.dom.g j)]) ∧ T.l1.dft = (setTb T i k).l1.dft ∧ T.l1.ll = (setTb T i k).l1.ll ∧ ((16 : Nat) = (16 : Nat) ∧ T.l1.srv.n = (setTb T i k).l1.srv.n ∧ ∀ (j : Nat), j < T.l1.srv.n → T.l1.srv.g j = (setTb T i k).l1.srv.g j) ∧ ((18 : Nat) = (18 : Nat) ∧ T.l1.loc.n = (setTb T i k).l1.loc.n ∧ ∀ (j : Nat), j < T.l1.loc.n → T.l1.loc.g j = (setTb T i k).l1.loc.g j) ∧ true = (setTb T i k).l2.live ∧ T.g + (1 : Int) = (setTb T i k).l2.gen ∧ ((1 : Nat) = (1 : Nat) ∧ k.dom.n = (setTb T i k).l2.dom.n ∧ ∀ (j : Nat), j < k.dom.n → [XT (k.dom.g j)] = [XT ((setTb T i k).l2.dom.g j)]) ∧ k.dft = (setTb T i k).l2.dft ∧ k.ll = (setTb T i k).l2.ll ∧ ((16 : Nat) = (16 : Nat) ∧ k.srv.n = (setTb T i k).l2.srv.n ∧ ∀ (j : Nat), j < k.srv.n → k.srv.g j = (setTb T i k).l2.srv.g j) ∧ ((18 : Nat) = (18 : Nat) ∧ k.loc.n = (setTb T i k).l2.loc.n ∧ ∀ (j : Nat), j < k.loc.n → k.loc.g j = (setTb T i k).l2.loc.g j) ∧ T.l3.live = (setTb T i k).l3.live ∧ T.l3.gen = (setTb T i k).l3.gen ∧ ((1 : Nat) = (1 : Nat) ∧ T.l3.dom.n = (setTb T i k).l3.dom.n ∧ ∀ (j : Nat), j < T.l3.dom.n → [XT (T.l3.dom.g j)] = [XT ((setTb T i k).l3.dom.g j)]) ∧ T.l3.dft = (setTb T i k).l3.dft ∧ T.l3.ll = (setTb T i k).l3.ll ∧ ((16 : Nat) = (16 : Nat) ∧ T.l3.srv.n = (setTb T i k).l3.srv.n ∧ ∀ (j : Nat), j < T.l3.srv.n → T.l3.srv.g j = (setTb T i k).l3.srv.g j) ∧ ((18 : Nat) = (18 : Nat) ∧ T.l3.loc.n = (setTb T i k).l3.loc.n ∧ ∀ (j : Nat), j < T.l3.loc.n → T.l3.loc.g j = (setTb T i k).l3.loc.g j) ∧ True ∧ True ∧ True ∧ True ∧ T.g + (1 : Int) = (setTb T i k).g ∧ True) ∧ (i = (3 : Int) → (0 : Int) ≤ (3 : Int) ∧ (3 : Int) < (↑(4 : Nat) : Int) ∧ (0 : Int) ≤ (3 : Int) ∧ (3 : Int) < (↑(4 : Nat) : Int) ∧ (0 : Int) = setN i k ∧ (e = e ∧ ap = ap) ∧ T.l0.live = (setTb T i k).l0.live ∧ T.l0.gen = (setTb T i k).l0.gen ∧ ((1 : Nat) = (1 : Nat) ∧ T.l0.dom.n = (setTb T i k).l0.dom.n ∧ ∀ (j : Nat), j < T.l0.dom.n → [XT (T.l0.dom.g j)] = [XT ((setTb T i k).l0.dom.g j)]) ∧ T.l0.dft = (setTb T i k).l0.dft ∧ T.l0.ll = (setTb T i k).l0.ll ∧ ((16 : Nat) = (16 : Nat) ∧ T.l0.srv.n = (setTb T i k).l0.srv.n ∧ ∀ (j : Nat), j < T.l0.srv.n → T.l0.srv.g j = (setTb T i k).l0.srv.g j) ∧ ((18 : Nat) = (18 : Nat) ∧ T.l0.loc.n = (setTb T i k).l0.loc.n ∧ ∀ (j : Nat), j < T.l0.loc.n → T.l0.loc.g j = (setTb T i k).l0.loc.g j) ∧ T.l1.live = (setTb T i k).l1.live ∧ T.l1.gen = (setTb T i k).l1.gen ∧ ((1 : Nat) = (1 : Nat) ∧ T.l1.dom.n = (setTb T i k).l1.dom.n ∧ ∀ (j : Nat), j < T.l1.dom.n → [XT (T.l1.dom.g j)] = [XT ((setTb T i k).l1.dom.g j)]) ∧ T.l1.dft = (setTb T i k).l1.dft ∧ T.l1.ll = (setTb T i k).l1.ll ∧ ((16 : Nat) = (16 : Nat) ∧ T.l1.srv.n = (setTb T i k).l1.srv.n ∧ ∀ (j : Nat), j < T.l1.srv.n → T.l1.srv.g j = (setTb T i k).l1.srv.g j) ∧ ((18 : Nat) = (18 : Nat) ∧ T.l1.loc.n = (setTb T i k).l1.loc.n ∧ ∀ (j : Nat), j < T.l1.loc.n → T.l1.loc.g j = (setTb T i k).l1.loc.g j) ∧ T.l2.live = (setTb T i k).l2.live ∧ T.l2.gen = (setTb T i k).l2.gen ∧ ((1 : Nat) = (1 : Nat) ∧ T.l2.dom.n = (setTb T i k).l2.dom.n ∧ ∀ (j : Nat), j < T.l2.dom.n → [XT (T.l2.dom.g j)] = [XT ((setTb T i k).l2.dom.g j)]) ∧ T.l2.dft = (setTb T i k).l2.dft ∧ T.l2.ll = (setTb T i k).l2.ll ∧ ((16 : Nat) = (16 : Nat) ∧ T.l2.srv.n = (setTb T i k).l2.srv.n ∧ ∀ (j : Nat), j < T.l2.srv.n → T.l2.srv.g j = (setTb T i k).l2.srv.g j) ∧ ((18 : Nat) = (18 : Nat) ∧ T.l2.loc.n = (setTb T i k).l2.loc.n ∧ ∀ (j : Nat), j < T.l2.loc.n → T.l2.loc.g j = (setTb T i k).l2.loc.g j) ∧ true = (setTb T i k).l3.live ∧ T.g + (1 : Int) = (setTb T i k).l3.gen ∧ ((1 : Nat) = (1 : Nat) ∧ k.dom.n = (setTb T i k).l3.dom.n ∧ ∀ (j : Nat), j < k.dom.n → [XT (k.dom.g j)] = [XT ((setTb T i k).l3.dom.g j)]) ∧ k.dft = (setTb T i k).l3.dft ∧ k.ll = (setTb T i k).l3.ll ∧ ((16 : Nat) = (16 : Nat) ∧ k.srv.n = (setTb T i k).l3.srv.n ∧ ∀ (j : Nat), j < k.srv.n → k.srv.g j = (setTb T i k).l3.srv.g j) ∧ ((18 : Nat) = (18 : Nat) ∧ k.loc.n = (setTb T i k).l3.loc.n ∧ ∀ (j : Nat), j < k.loc.n → k.loc.g j = (setTb T i k).l3.loc.g j) ∧ True ∧ True ∧ True ∧ True ∧ T.g + (1 : Int) = (setTb T i k).g ∧ True) ∧ True))
theorem stV_eq (T : LTab) (i : Int) (k : Lnk) (e : TypeId) (ap : Bool) : stV T i k e ap = (funT cxS Tryd.f13 (mkSc stE (bodyOf Tryd.f13)) e ap (tabX T) [XI i, .agg (lnkX k)] (XI (setN i k)) (tabX (setTb T i k))) := by kernel_rfl
theorem cnw_v (i : Int) : cnwV i := by
 unfold cnwV
 exact ⟨⟨rfl, rfl⟩, rfl, rfl, trivial⟩
theorem cnw_n : NTok Tryd.prog 28 77 cnwN := nt_ok2 cx0_ok Tryd.func28 rfl (by decide) fun args cs v hC hc => by
 unfold cnwN at hC
 split at hC
 ·split at hC
  ·rename_i x _ p a hx
   simp only [Option.some.injEq, Prod.mk.injEq] at hC
   obtain ⟨rfl, rfl⟩ := hC
   obtain ⟨h1, h2, h3⟩ := dInt_eq.ok _ p a hx hc
   refine ⟨[dInt.enc a], by kernel_rfl, by simp [pdL, h1], by simp [pdL, h2], fun L w zs hz => ?_, rfl, exvN (cnwV_eq a) (cnw_v a)⟩
   match zs, hz with
   | [z], hz => simp only [toAVL, VSL] at hz ⊢; exact ⟨h3 L w z hz.1, trivial⟩
   | [], hz => simp [toAVL, VSL] at hz
   | _ :: _ :: _, hz => simp [toAVL, VSL] at hz
  ·cases hC
 ·cases hC
theorem cnw_ok : CTok Tryd.prog 28 cnwC := ct_of_nt cnw_n fun args cs v hC => by
 unfold cnwC C1 at hC
 split at hC
 ·split at hC
  ·rename_i x _ p a hx
   simp only [Option.some.injEq, Prod.mk.injEq] at hC
   obtain ⟨rfl, rfl⟩ := hC
   refine ⟨[XI (imin (imax a 0) 16), Xnil], ?_, rfl, rfl⟩
   show (match dInt.dec x with | some (p, a) => some (p, [XI (imin (imax a 0) 16), Xnil]) | none => none) = _
   rw [hx, List.append_nil]
  ·cases hC
 ·cases hC
theorem setTb_no (T : LTab) {i : Int} {k : Lnk} (h : inB i = false ∨ rgtK k = false) : setTb T i k = T := by
 unfold setTb
 rcases h with h | h
 ·rw [if_neg (by rw [h]; decide)]
 ·split
  ·rw [if_neg (by rw [h]; decide)]
  ·rfl
theorem setTb_in (T : LTab) {i : Int} {k : Lnk} (h : inB i = true) (h2 : rgtK k = true) : setTb T i k = putT T i (aliveK k (T.g + 1)) (T.g + 1) := by
 unfold setTb
 rw [if_pos h, if_pos h2]
theorem inB_not (i : Int) : (decide (i < 0) || decide (i ≥ 4)) = !inB i := by
 unfold inB
 rw [Bool.not_and, ← decide_not, ← decide_not]
 congr 1 <;> exact decide_eq_decide.2 (by omega)
set_option maxHeartbeats 2000000 in
theorem st_v (T : LTab) (i : Int) (k : Lnk) (e : TypeId) (ap : Bool) (hk : k.dom.n ≤ 4611686018427387904) (hg : -4611686018427387904 ≤ T.g ∧ T.g ≤ 4611686018427387904) : stV T i k e ap := by
 unfold stV
 rw [inB_not]
 refine ⟨fun h => ?_, fun h => ⟨fun _ _ => rfl, by omega, fun h2 => ?_, fun h2 => ?_⟩⟩
 ·rw [Bool.not_eq_true'] at h
  rw [setTb_no T (.inl h), setN, if_neg (by rw [h]; decide)]
  and_intros <;> first | rfl | trivial | exact fun _ _ => rfl
 ·rw [Bool.not_eq_true'] at h2
  rw [Bool.not_eq_false'] at h
  have h2 : rgtK k = false := h2
  rw [setTb_no T (.inr h2), setN, if_pos h, if_neg (by rw [h2]; decide)]
  and_intros <;> first | rfl | trivial | exact fun _ _ => rfl
 ·rw [Bool.not_eq_false'] at h h2
  have h2 : rgtK k = true := h2
  have h4 : k.dom.n ≤ 4 ∧ k.srv.n ≤ 3 ∧ k.loc.n ≤ 4 := by
   have := (Bool.and_eq_true_iff.1 h2).1
   rw [Bool.and_eq_true, Bool.and_eq_true] at this
   exact ⟨of_decide_eq_true this.1, of_decide_eq_true this.2.1, of_decide_eq_true this.2.2⟩
  have hi : 0 ≤ i ∧ i < 4 := by
   rw [inB, Bool.and_eq_true] at h
   exact ⟨of_decide_eq_true h.1, of_decide_eq_true h.2⟩
  have hn : setN i k = 0 := by rw [setN, if_pos h, if_pos h2]
  rw [setTb_in T h h2, hn]
  refine ⟨by unfold in64; omega, by omega, by omega, by omega, by omega, by omega, by omega, by omega, fun e0 => ?_, fun e0 => ?_, fun e0 => ?_, fun e0 => ?_, trivial⟩
  ·subst e0
   rw [show putT T 0 (aliveK k (T.g + 1)) (T.g + 1) = ⟨aliveK k (T.g + 1), T.l1, T.l2, T.l3, T.g + 1⟩ from rfl]
   and_intros <;> first | rfl | trivial | exact fun _ _ => rfl | exact Nat.zero_add _ | omega
  ·subst e0
   rw [show putT T 1 (aliveK k (T.g + 1)) (T.g + 1) = ⟨T.l0, aliveK k (T.g + 1), T.l2, T.l3, T.g + 1⟩ from rfl]
   and_intros <;> first | rfl | trivial | exact fun _ _ => rfl | exact Nat.zero_add _ | omega
  ·subst e0
   rw [show putT T 2 (aliveK k (T.g + 1)) (T.g + 1) = ⟨T.l0, T.l1, aliveK k (T.g + 1), T.l3, T.g + 1⟩ from rfl]
   and_intros <;> first | rfl | trivial | exact fun _ _ => rfl | exact Nat.zero_add _ | omega
  ·subst e0
   rw [show putT T 3 (aliveK k (T.g + 1)) (T.g + 1) = ⟨T.l0, T.l1, T.l2, aliveK k (T.g + 1), T.g + 1⟩ from rfl]
   and_intros <;> first | rfl | trivial | exact fun _ _ => rfl | exact Nat.zero_add _ | omega
theorem dTab_ok : DcTOk dTab := ⟨fun a => rfl, fun x cs a h hc ρ ys hr L w zs hz => by
 unfold dTab tabD at h
 dsimp only at h
 split at h
 ·rename_i p a q b r c s d g h0 h1 h2 h3 h4 h5
  simp only [Option.some.injEq, Prod.mk.injEq] at h
  obtain ⟨rfl, rfl⟩ := h
  obtain ⟨a1, a2, a3⟩ := lnkD_ok h1 (allL hc)
  obtain ⟨b1, b2, b3⟩ := lnkD_ok h2 (allL (allR hc))
  obtain ⟨c1, c2, c3⟩ := lnkD_ok h3 (allL (allR (allR hc)))
  obtain ⟨d1, d2, d3⟩ := lnkD_ok h4 (allR (allR (allR hc)))
  rw [beqN, decide_eq_true_eq, xlen_eq] at h0
  have z1 := a3 L w (zs.take 7) (by rw [← RVL.pd _ _ a1 (hr.take 7)]; exact hz.take 7)
  have z2 := b3 L w ((zs.drop 7).take 7) (by rw [← RVL.pd _ _ b1 ((hr.drop 7).take 7)]; exact (hz.drop 7).take 7)
  have z3 := c3 L w ((zs.drop 14).take 7) (by rw [← RVL.pd _ _ c1 ((hr.drop 14).take 7)]; exact (hz.drop 14).take 7)
  have z4 := d3 L w ((zs.drop 21).take 7) (by rw [← RVL.pd _ _ d1 ((hr.drop 21).take 7)]; exact (hz.drop 21).take 7)
  have z5 : VSL L w (toAVL [.top, .top, .top, .top, XI g]) (zs.drop 28) := by
   have hr5 := hr.drop 28
   have hz5 := hz.drop 28
   have hl : (x.drop 28).length = 5 := by rw [List.length_drop]; omega
   have hgx : xget (x.drop 28) 4 = xget x 32 := by rw [xget_eq, xget_eq, List.getD_eq_getElem?_getD, List.getD_eq_getElem?_getD, List.getElem?_drop]
   have hg5 := intO_eq h5
   rw [← hgx] at hg5
   generalize x.drop 28 = y at hr5 hl hg5
   generalize ys.drop 28 = bs at hr5 hz5
   match y, bs, zs.drop 28, hr5, hz5, hl, hg5 with
   | [y1, y2, y3, y4, y5], [b1, b2, b3, b4, b5], [z1, z2, z3, z4, z5], hr5, hz5, hl, hg5 =>
    have hg5 : y5 = XI g := hg5
    subst hg5
    simp only [RVL, RV] at hr5
    obtain ⟨-, -, -, -, rfl, -⟩ := hr5
    simp only [VSL] at hz5
    simp only [toAVL, toAV, VSL, VS]
    exact ⟨trivial, trivial, trivial, trivial, by simpa [VS] using hz5.2.2.2.2.1, trivial⟩
  have e : zs = zs.take 7 ++ ((zs.drop 7).take 7 ++ ((zs.drop 14).take 7 ++ ((zs.drop 21).take 7 ++ zs.drop 28))) := by
   have k1 := List.take_append_drop 7 zs
   have k2 := List.take_append_drop 7 (zs.drop 7)
   have k3 := List.take_append_drop 7 (zs.drop 14)
   have k4 := List.take_append_drop 7 (zs.drop 21)
   rw [List.drop_drop] at k2 k3 k4
   conv => lhs; rw [← k1, ← k2, ← k3, ← k4]
  rw [e]
  exact VSL.append z1 (VSL.append z2 (VSL.append z3 (VSL.append z4 z5)))
 ·cases h⟩
def setC : TT := TT2 dTab dInt dLk (fun T i k => [k.dom.n ≤ 1000000000, -4611686018427387904 ≤ T.g ∧ T.g ≤ 4611686018427387904]) (fun T i k => XI (setN i k)) fun T i k => setTb T i k
theorem cxS_ok : cxS.ok Tryd.prog := Cx.ok.setK ((cx0_ok.addC cnw_ok).addC rk_ok) true
theorem set_ok : ITok Tryd.prog 13 (itT setC) := TT2_ok cxS_ok Tryd.func13 rfl (by decide) dTab_ok dInt_eq.ok dLk_ok (by kernel_rfl) (fun _ _ _ => rfl) fun T i k hc => exvT (fun e ap => stV_eq T i k e ap) fun e ap => st_v T i k e ap (Nat.le_trans (hc _ (.head _)) (by decide)) (hc _ (.tail _ (.head _)))
end Go.Proofs.YtaglpckihegmoaaDoorAv
