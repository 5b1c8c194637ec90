/- Own texts, put together. -/
import Derived.Test.YtkjcoehblekpdaaGreatDoorMiC
import Derived.WalkKit
import Derived.Deep.LoopGhost
import Derived.Laws.OwnMore
import Derived.Laws.CopyRow
import Derived.Lib.ConvBytes
import Derived.Below
import Derived.KernelRfl
import Derived.Scope
import Derived.Laws.BytesString
import Derived.DataElems
import Derived.Laws.Tables
import Derived.Laws.Cells
import Derived.Laws.StructEq
import Derived.Laws.RangeString
import Derived.BigQuiet
import Derived.Test.YtkjcoehblekpdaaGreatDoorProg
import Derived.Shelf.Strings.Builder1
import Derived.Shelf.Strings.Builder2
import Derived.Shelf.Strings.OnBuilder
import Derived.Shelf.Small.Wraps
import Derived.Shelf.Strings.BuilderF
import Derived.Shelf.Strings.BuilderK
import Derived.Shelf.Utf8.RuneCount
import Derived.Shelf.Strings.Builder2Cap
import Derived.Shelf.Strconv.Itoa0
import Derived.Shelf.Strconv.Itoa1
import Derived.Shelf.LaysM
import Derived.Shelf.Strconv.Itoa2
import Derived.Shelf.Strconv.Itoa3
import Derived.Shelf.Strconv.Itoa4
import Derived.Shelf.Strconv.Clone
import Derived.Shelf.Strconv.SyntaxError
import Derived.Shelf.LaysC
import Derived.Shelf.Strconv.ToError
import Derived.Shelf.Strconv.Lower
import Derived.Shelf.Strconv.ParseUint10
import Derived.Shelf.Strconv.ParseUint10Empty
import Derived.Shelf.Strconv.ParseUint10Any
import Derived.Shelf.Strconv.RangeError
import Derived.Shelf.Strconv.ToErrorRange
import Derived.Shelf.Strconv.ParseUintEmpty
import Derived.Shelf.Strconv.ParseUint10b64
import Derived.Shelf.Strconv.ParseUint10b32
import Derived.Shelf.Strconv.ParseUint10b16
import Derived.Shelf.Strconv.ParseUint10b8
import Derived.Shelf.Strconv.ParseUint10At
import Derived.Shelf.Strings.Search1
import Derived.Shelf.Strings.Search2
import Derived.Shelf.Strings.Search3
import Derived.Shelf.Strings.Cut
import Derived.Shelf.Strings.Count
import Derived.Shelf.Strings.Shaped
import Derived.Shelf.Strings.LastIndex
import Derived.Shelf.Strings.Prefix
import Derived.Shelf.Strings.Split
import Derived.Shelf.Strings.Replace
import Derived.Shelf.Strings.Fold
import Derived.Shelf.Strings.SplitShaped
import Derived.Shelf.Unicode.Decode
import Derived.Shelf.Strings.RuneCount
import Derived.Shelf.Unicode.DecodeSlow
import Derived.Shelf.Unicode.DecodeAny
import Derived.Shelf.Unicode.ValidAny
import Derived.Shelf.Unicode.CaseLookup
import Derived.Shelf.Unicode.CaseConvert
import Derived.Shelf.Strings.BuilderCap
import Derived.OpenShut
import Derived.SliceStrings
import Derived.ChangeSlices
import Derived.SizedLaws
import Derived.Carry
import Derived.Lib.LaidTab
import Derived.Shelf.Vars
import Derived.WideKeyArr2
import Derived.Lay
import Derived.Deep.DeepHandedRow
import Derived.Test.YtkjcoehblekpdaaGreatDoorRows
import Derived.Lib.LaidU8T
import Derived.Lib.Replace
import Derived.Lib.AppendIntMem
set_option linter.unusedVariables false
set_option linter.unusedSimpArgs false
set_option maxRecDepth 100000
namespace Go.Proofs.YtkjcoehblekpdaaGreatDoorAv
open Go Go.RowKit
def laE (s : ByteArray) (i : Nat) : Prop := (i : Int) = s.size ∨ sbyte s i = 46
instance (s : ByteArray) (i : Nat) : Decidable (laE s i) := inferInstanceAs (Decidable (_ ∨ _))
def laF (s : ByteArray) : Nat → Nat
 | 0 => 0
 | i + 1 => if laE s i then i + 1 else laF s i
def laO (s : ByteArray) : Nat → List ByteArray
 | 0 => []
 | i + 1 => if laE s i then laO s i ++ [s.extract (laF s i) i] else laO s i
def laI (s : ByteArray) : Inv where
 σ := IL
 S := fun x => ⟨[(0, XT s), (2, Xnil), (3, .sl 0 1 0 (laO s x.i).length), (4, XI (laF s x.i)), (8, XI ((s.size : Int) + 1)), (9, XI x.i)], [(0, .vec 9 true (laO s x.i).length 1 fun j => [XT ((laO s x.i).getD j ⟨#[]⟩)])], 1, false, []⟩
 inv := fun x => x.i ≤ s.size + 1
 μ := fun x => s.size + 1 - x.i
def laEn (s : ByteArray) : Env := { loops := [(0, laI s)], own := [(2, [(3, 9, 1)])], frz := [(10, [3])] }
def laV (s : ByteArray) : Prop :=
 in64 ((↑s.size : Int) + (1 : Int)) ∧ (∃ (x : (laI s).σ), x.i.le (s.size + (1 : Nat)) ∧ true = true ∧ s = s ∧ Xnil = Xnil ∧ XV.sl 0 1 0 0 = XV.sl 0 1 0 (laO s x.i).length ∧ (0 : Int) = (↑(laF s x.i) : Int) ∧ (↑s.size : Int) + (1 : Int) = (↑s.size : Int) + (1 : Int) ∧ (0 : Int) = (↑x.i : Int) ∧ (((9 : Nat) = (9 : TypeId) ∧ true = true ∧ (1 : Nat) = (1 : Nat)) ∧ (0 : Nat) = (laO s x.i).length ∧ ∀ (j : Nat), j < (0 : Nat) → [] = [XT ((laO s x.i).getD j ⟨#[]⟩)]) ∧ True) ∧ ∀ (x : IL), x.i.le (s.size + (1 : Nat)) → (decide ((↑x.i : Int) < (↑s.size : Int) + (1 : Int)) = true → ((!(↑x.i : Int) == (↑s.size : Int)) = true → (0 : Int) ≤ (↑x.i : Int)) ∧ ((!(↑x.i : Int) == (↑s.size : Int)) = true → (↑x.i : Int) < (↑s.size : Int)) ∧ (((↑x.i : Int) == (↑s.size : Int) || sbyte s (↑x.i : Int) == (46 : Int)) = true → (0 : Int) ≤ (↑(laF s x.i) : Int) ∧ (↑(laF s x.i) : Int) ≤ (↑x.i : Int) ∧ (↑x.i : Int) ≤ (↑s.size : Int) ∧ (laO s x.i).length = (laO s x.i).length ∧ ((laO s x.i).length + (1 : Nat)) * (16 : Nat) ≤ (140737488355328 : Nat) ∧ (laO s x.i).length + (1 : Nat) ≤ (140737488355328 : Nat) ∧ in64 ((↑x.i : Int) + (1 : Int)) ∧ in64 ((↑x.i : Int) + (1 : Int)) ∧ ∃ (x' : (laI s).σ), x'.i.le (s.size + (1 : Nat)) ∧ s.size + (1 : Nat) - x'.i < s.size + (1 : Nat) - x.i ∧ true = true ∧ s = s ∧ Xnil = Xnil ∧ XV.sl 0 1 0 ((laO s x.i).length + (1 : Nat)) = XV.sl 0 1 0 (laO s x'.i).length ∧ (↑x.i : Int) + (1 : Int) = (↑(laF s x'.i) : Int) ∧ (↑s.size : Int) + (1 : Int) = (↑s.size : Int) + (1 : Int) ∧ (↑x.i : Int) + (1 : Int) = (↑x'.i : Int) ∧ (((9 : TypeId) = (9 : TypeId) ∧ true = true ∧ (1 : Nat) = (1 : Nat)) ∧ (laO s x.i).length + (1 : Nat) = (laO s x'.i).length ∧ ∀ (j : Nat), j < (laO s x.i).length + (1 : Nat) → [XT (bif j.blt (laO s x.i).length then (laO s x.i).getD j ⟨#[]⟩ else s.extract (↑(laF s x.i) : Int).toNat (↑x.i : Int).toNat)] = [XT ((laO s x'.i).getD j ⟨#[]⟩)]) ∧ True) ∧ (((↑x.i : Int) == (↑s.size : Int) || sbyte s (↑x.i : Int) == (46 : Int)) = false → in64 ((↑x.i : Int) + (1 : Int)) ∧ ∃ (x' : (laI s).σ), x'.i.le (s.size + (1 : Nat)) ∧ s.size + (1 : Nat) - x'.i < s.size + (1 : Nat) - x.i ∧ true = true ∧ s = s ∧ Xnil = Xnil ∧ XV.sl 0 1 0 (laO s x.i).length = XV.sl 0 1 0 (laO s x'.i).length ∧ (↑(laF s x.i) : Int) = (↑(laF s x'.i) : Int) ∧ (↑s.size : Int) + (1 : Int) = (↑s.size : Int) + (1 : Int) ∧ (↑x.i : Int) + (1 : Int) = (↑x'.i : Int) ∧ (((9 : TypeId) = (9 : TypeId) ∧ true = true ∧ (1 : Nat) = (1 : Nat)) ∧ (laO s x.i).length = (laO s x'.i).length ∧ ∀ (j : Nat), j < (laO s x.i).length → [XT ((laO s x.i).getD j ⟨#[]⟩)] = [XT ((laO s x'.i).getD j ⟨#[]⟩)]) ∧ True)) ∧ (decide ((↑x.i : Int) < (↑s.size : Int) + (1 : Int)) = false → (laO s x.i).length = (laO s x.i).length ∧ (1 : Nat) = (1 : Nat) ∧ (laO s x.i).length = (laO s (s.size + (1 : Nat))).length ∧ ∀ (j : Nat), j < (laO s x.i).length → [XT ((laO s x.i).getD j ⟨#[]⟩)] = [XT ((laO s (s.size + (1 : Nat))).getD j ⟨#[]⟩)])
theorem laV_eq (s : ByteArray) : laV s = (funC cx0 Tryz.f49 (mkSc (laEn s) (bodyOf Tryz.f49)) [XT s] (strsL (laO s (s.size + 1)))) := by kernel_rfl
def ljF (g : Nat → ByteArray) : Nat → ByteArray
 | 0 => ⟨#[]⟩
 | i + 1 => (if 0 < i then ljF g i ++ ⟨#[46]⟩ else ljF g i) ++ g i
def ljI (q : Sq ByteArray) : Inv where
 σ := IL
 S := fun x => ⟨[(2, XT ⟨#[]⟩), (3, XT (ljF q.g x.i)), (6, sqX 1 (fun s => [XT s]) q), (7, XI q.n), (8, XI x.i)], [], 0, false, []⟩
 inv := fun x => x.i ≤ q.n
 μ := fun x => q.n - x.i
def ljE (q : Sq ByteArray) : Env := { loops := [(0, ljI q)] }
def ljV (q : Sq ByteArray) : Prop :=
  (∃ (x : (ljI q).σ), x.i.le q.n ∧ true = true ∧ { data := #[] : ByteArray } = { data := #[] : ByteArray } ∧ { data := #[] : ByteArray } = ljF q.g x.i ∧ ((XV.fz q.n (1 : Nat) fun (i : Nat) => [XT (q.g i)]) = XV.fz q.n (1 : Nat) fun (i : Nat) => [XT (q.g i)]) ∧ (↑q.n : Int) = (↑q.n : Int) ∧ (0 : Int) = (↑x.i : Int) ∧ True) ∧ ∀ (x : IL), x.i.le q.n → (decide ((↑x.i : Int) < (↑q.n : Int)) = true → (0 : Int) ≤ (↑x.i : Int) ∧ (↑x.i : Int) < (↑q.n : Int) ∧ (decide ((↑x.i : Int) > (0 : Int)) = true → (ljF q.g x.i).size + (1 : Nat) ≤ (9223372036854775807 : Nat) ∧ (ljF q.g x.i ++ { data := #[(46 : UInt8)] : ByteArray }).size + (q.g (↑x.i : Int).toNat).size ≤ (9223372036854775807 : Nat) ∧ in64 ((↑x.i : Int) + (1 : Int)) ∧ ∃ (x' : (ljI q).σ), x'.i.le q.n ∧ q.n - x'.i < q.n - x.i ∧ true = true ∧ { data := #[] : ByteArray } = { data := #[] : ByteArray } ∧ ljF q.g x.i ++ { data := #[(46 : UInt8)] : ByteArray } ++ q.g (↑x.i : Int).toNat = ljF q.g x'.i ∧ ((XV.fz q.n (1 : Nat) fun (i : Nat) => [XT (q.g i)]) = XV.fz q.n (1 : Nat) fun (i : Nat) => [XT (q.g i)]) ∧ (↑q.n : Int) = (↑q.n : Int) ∧ (↑x.i : Int) + (1 : Int) = (↑x'.i : Int) ∧ True) ∧ (decide ((↑x.i : Int) > (0 : Int)) = false → (ljF q.g x.i).size + (q.g (↑x.i : Int).toNat).size ≤ (9223372036854775807 : Nat) ∧ in64 ((↑x.i : Int) + (1 : Int)) ∧ ∃ (x' : (ljI q).σ), x'.i.le q.n ∧ q.n - x'.i < q.n - x.i ∧ true = true ∧ { data := #[] : ByteArray } = { data := #[] : ByteArray } ∧ ljF q.g x.i ++ q.g (↑x.i : Int).toNat = ljF q.g x'.i ∧ ((XV.fz q.n (1 : Nat) fun (i : Nat) => [XT (q.g i)]) = XV.fz q.n (1 : Nat) fun (i : Nat) => [XT (q.g i)]) ∧ (↑q.n : Int) = (↑q.n : Int) ∧ (↑x.i : Int) + (1 : Int) = (↑x'.i : Int) ∧ True)) ∧ (decide ((↑x.i : Int) < (↑q.n : Int)) = false → ljF q.g x.i = ljF q.g q.n)
theorem ljV_eq (q : Sq ByteArray) : ljV q = (funC cx0 Tryz.f26 (mkSc (ljE q) (bodyOf Tryz.f26)) [sqX 1 (fun s => [XT s]) q] (XT (ljF q.g q.n))) := by kernel_rfl
theorem laF_le (s : ByteArray) : ∀ i, laF s i ≤ i
 | 0 => Nat.le_refl _
 | i + 1 => by
  have := laF_le s i
  rw [laF]
  split <;> omega
theorem laO_le (s : ByteArray) : ∀ i, (laO s i).length ≤ i
 | 0 => Nat.le_refl _
 | i + 1 => by
  have := laO_le s i
  rw [laO]
  split
  ·rw [List.length_append]; show _ + 1 ≤ _; omega
  ·omega
theorem split1_snoc (c b : UInt8) : ∀ (l : List UInt8) (A : List (List UInt8)) (x : List UInt8), split1 c l = A ++ [x] → split1 c (l ++ [b]) = if b = c then A ++ [x, []] else A ++ [x ++ [b]]
 | [], A, x, h => by
  have h : [[]] = A ++ [x] := h
  cases A with
  | nil =>
   obtain rfl : [] = x := by simpa using h
   show (if b = c then [] :: split1 c [] else match split1 c [] with | h :: t => (b :: h) :: t | [] => [[b]]) = _
   split <;> rfl
  | cons a A =>
   have := congrArg List.length h
   simp at this
 | a :: l, A, x, h => by
  rw [List.cons_append]
  unfold split1 at h ⊢
  by_cases e : a = c
  ·rw [if_pos e] at h ⊢
   cases A with
   | nil =>
    simp at h
    exact absurd h.2 (split1_ne c l)
   | cons a' A =>
    rw [List.cons_append, List.cons.injEq] at h
    obtain ⟨rfl, h⟩ := h
    rw [split1_snoc c b l A x h]
    split <;> rfl
  ·rw [if_neg e] at h ⊢
   cases hl : split1 c l with
   | nil => exact absurd hl (split1_ne c l)
   | cons y t =>
    rw [hl] at h
    have h : (a :: y) :: t = A ++ [x] := h
    cases A with
    | nil =>
     simp at h
     obtain ⟨rfl, rfl⟩ := h
     rw [split1_snoc c b l [] y hl]
     by_cases hb : b = c
     ·rw [if_pos hb, if_pos hb]; rfl
     ·rw [if_neg hb, if_neg hb]; rfl
    | cons a' A =>
     rw [List.cons_append, List.cons.injEq] at h
     obtain ⟨rfl, rfl⟩ := h
     rw [split1_snoc c b l (y :: A) x hl]
     by_cases hb : b = c
     ·rw [if_pos hb, if_pos hb]; rfl
     ·rw [if_neg hb, if_neg hb]; rfl
theorem sbyte_at (s : ByteArray) (i : Nat) : sbyte s i = ((s.data.toList.getD i 0).toNat : Int) := rfl
theorem laE_lt (s : ByteArray) (i : Nat) (h : i < s.size) : laE s i ↔ s.data.toList.getD i 0 = 46 := by
 unfold laE
 rw [sbyte_at]
 constructor
 ·rintro (h1 | h1)
  ·omega
  ·apply UInt8.toNat_inj.1
   show _ = 46
   omega
 ·intro h1
  right
  rw [h1]
  rfl
theorem ext_data (s : ByteArray) (i j : Nat) (h1 : i ≤ j) (h2 : j ≤ s.size) : (s.extract i j).data.toList = (s.data.toList.drop i).take (j - i) := by
 rw [ByteArray.data_extract, Array.toList_extract]
theorem la_split (s : ByteArray) : ∀ i, i ≤ s.size → split1 46 (s.data.toList.take i) = ((laO s i).map (·.data.toList)) ++ [(s.data.toList.take i).drop (laF s i)]
 | 0, _ => rfl
 | i + 1, h => by
  have ih := la_split s i (by omega)
  have hl : i < s.data.toList.length := by rw [← size_data]; omega
  have hf := laF_le s i
  rw [take_snoc' _ i 0 hl, split1_snoc 46 _ _ _ _ ih, laO, laF]
  by_cases e : laE s i
  ·rw [if_pos e, if_pos e, if_pos ((laE_lt s i (by omega)).1 e), List.map_append, List.append_assoc]
   congr 1
   have e1 : (s.extract (laF s i) i).data.toList = (s.data.toList.take i).drop (laF s i) := by
    rw [ext_data s _ _ hf (by omega), List.drop_take]
   have e2 : (s.data.toList.take i ++ [s.data.toList.getD i 0]).drop (i + 1) = [] := by
    apply List.drop_eq_nil_of_le
    rw [List.length_append, List.length_take, List.length_singleton]
    omega
   rw [List.map_singleton, e1, e2]
   rfl
  ·rw [if_neg e, if_neg e, if_neg (fun h1 => e ((laE_lt s i (by omega)).2 h1))]
   congr 2
   rw [List.drop_append_of_le_length (by rw [List.length_take]; omega)]
theorem la_out (s : ByteArray) : laO s (s.size + 1) = splitS s ⟨#[46]⟩ := by
 have h := la_split s s.size (Nat.le_refl _)
 rw [size_data s, List.take_length, ← size_data s] at h
 rw [splitS_one, h, laO, if_pos (.inl rfl), List.map_append, List.map_map]
 have e : (laO s s.size).map (mk8 ∘ (·.data.toList)) = laO s s.size := by
  conv => rhs; rw [← List.map_id (laO s s.size)]
  apply List.map_congr_left
  intro a _
  rfl
 rw [e]
 congr 1
 rw [List.map_singleton]
 congr 1
 have hf := laF_le s s.size
 rw [← data_mk8 (s.extract (laF s s.size) s.size), ext_data s _ _ hf (Nat.le_refl _)]
 congr 1
 rw [List.take_of_length_le (by rw [List.length_drop, ← size_data]; omega)]
theorem la_v (s : ByteArray) (hs : s.size ≤ 1000000000) : laV s := by
 unfold laV
 refine ⟨by unfold in64; omega, ⟨⟨0⟩, Nat.zero_le _, rfl, rfl, rfl, rfl, rfl, rfl, rfl, ⟨⟨rfl, rfl, rfl⟩, rfl, fun j hj => absurd hj (by omega)⟩, trivial⟩, ?_⟩
 rintro ⟨i⟩ hi
 have hi : i ≤ s.size + 1 := hi
 have hf := laF_le s i
 have ho := laO_le s i
 refine ⟨fun h => ?_, fun h => ?_⟩
 ·have h : (i : Int) < (s.size : Int) + 1 := of_decide_eq_true h
  refine ⟨fun _ => by dsimp only; omega, fun h2 => ?_, fun h2 => ?_, fun h2 => ?_⟩
  ·have h2 : ¬ (i : Int) = (s.size : Int) := fun e => by
    have h2 : (!(i : Int) == (s.size : Int)) = true := h2
    rw [beq_iff_eq.mpr e] at h2
    cases h2
   dsimp only
   omega
  ·have h3 : laE s i := by
    have h2 : ((i : Int) == (s.size : Int) || sbyte s (i : Int) == 46) = true := h2
    rw [Bool.or_eq_true, beq_iff_eq, beq_iff_eq] at h2
    exact h2
   have e1 : laF s (i + 1) = i + 1 := by rw [laF, if_pos h3]
   have e2 : laO s (i + 1) = laO s i ++ [s.extract (laF s i) i] := by rw [laO, if_pos h3]
   have e3 : (laO s i).length + 1 = (laO s (i + 1)).length := by rw [e2, List.length_append]; rfl
   refine ⟨by omega, by dsimp only; omega, by dsimp only; omega, rfl, by dsimp only; omega, by dsimp only; omega, by unfold in64; dsimp only; omega, by unfold in64; dsimp only; omega, ⟨i + 1⟩, by show i + 1 ≤ s.size + 1; omega, by show s.size + 1 - (i + 1) < s.size + 1 - i; omega, rfl, rfl, rfl, ?_, ?_, rfl, rfl, ⟨⟨rfl, rfl, rfl⟩, e3, fun j hj => ?_⟩, trivial⟩
   ·dsimp only; rw [e3]
   ·dsimp only; rw [e1]; rfl
   ·dsimp only
    rw [e2]
    exact congrArg (fun x => [XT x]) (row_app2 (laO s i) _ ⟨#[]⟩ j hj)
  ·have h3 : ¬ laE s i := fun e => by
    have h2 : ((i : Int) == (s.size : Int) || sbyte s (i : Int) == 46) = false := h2
    unfold laE at e
    rw [← beq_iff_eq (a := (i : Int)), ← beq_iff_eq (a := sbyte s i), ← Bool.or_eq_true, h2] at e
    cases e
   have e1 : laF s (i + 1) = laF s i := by rw [laF, if_neg h3]
   have e2 : laO s (i + 1) = laO s i := by rw [laO, if_neg h3]
   refine ⟨by unfold in64; dsimp only; omega, ⟨i + 1⟩, by show i + 1 ≤ s.size + 1; omega, by show s.size + 1 - (i + 1) < s.size + 1 - i; omega, rfl, rfl, rfl, ?_, ?_, rfl, rfl, ⟨⟨rfl, rfl, rfl⟩, ?_, fun j hj => ?_⟩, trivial⟩
   ·dsimp only; rw [e2]
   ·dsimp only; rw [e1]
   ·dsimp only; rw [e2]
   ·dsimp only; rw [e2]
 ·have h : ¬ (i : Int) < (s.size : Int) + 1 := of_decide_eq_false h
  obtain rfl : i = s.size + 1 := by omega
  exact ⟨rfl, rfl, rfl, fun _ _ => rfl⟩
def lspC : CT := C1 dStr (fun s => [s.size ≤ 1000000000]) fun s => strsL (splitS s ⟨#[46]⟩)
theorem lsp_ok : CTok Tryz.prog 49 lspC := C1_ok cx0_ok Tryz.func49 rfl (by decide) dStr_eq.ok (by kernel_rfl) (fun _ => rfl) fun s hc => by
 rw [← la_out s]
 exact exv (laV_eq s) (la_v s (hc _ (.head _)))
theorem ljF_size (g : Nat → ByteArray) (n : Nat) (h : ∀ i, i < n → (g i).size ≤ 1000000) : ∀ i, i ≤ n → (ljF g i).size ≤ 1000001 * i
 | 0, _ => Nat.le_refl _
 | i + 1, hi => by
  have ih := ljF_size g n h i (by omega)
  have hg := h i (by omega)
  rw [ljF, ByteArray.size_append]
  split
  ·rw [ByteArray.size_append]
   show _ + 1 + _ ≤ _
   omega
  ·omega
theorem lj_v (q : Sq ByteArray) (hn : q.n ≤ 3000) (hq : ∀ i, i < q.n → (q.g i).size ≤ 1000000) : ljV q := by
  unfold ljV
  refine ⟨⟨⟨0⟩, Nat.zero_le _, rfl, rfl, rfl, rfl, rfl, rfl, trivial⟩, ?_⟩
  rintro ⟨i⟩ hi
  have hi : i ≤ q.n := hi
  have hs := ljF_size q.g q.n hq i hi
  refine ⟨fun h => ?_, fun h => ?_⟩
  · have h : (i : Int) < (q.n : Int) := of_decide_eq_true h
    have e : (i : Int).toNat = i := by omega
    have hg := hq i (by omega)
    dsimp only
    rw [e]
    refine ⟨by omega, h, fun h2 => ?_, fun h2 => ?_⟩
    · have h2 : (i : Int) > 0 := of_decide_eq_true h2
      refine ⟨by omega, by rw [ByteArray.size_append]; show _ + 1 + _ ≤ _; omega, by unfold in64; omega, ⟨i + 1⟩, by show i + 1 ≤ q.n; omega, by show q.n - (i + 1) < q.n - i; omega, rfl, rfl, ?_, rfl, rfl, rfl, trivial⟩
      show _ = ljF q.g (i + 1)
      rw [ljF, if_pos (by omega)]
    · have h2 : ¬ (i : Int) > 0 := of_decide_eq_false h2
      refine ⟨by omega, by unfold in64; omega, ⟨i + 1⟩, by show i + 1 ≤ q.n; omega, by show q.n - (i + 1) < q.n - i; omega, rfl, rfl, ?_, rfl, rfl, rfl, trivial⟩
      show _ = ljF q.g (i + 1)
      rw [ljF, if_neg (by omega)]
  · have h : ¬ (i : Int) < (q.n : Int) := of_decide_eq_false h
    obtain rfl : i = q.n := by omega
    rfl
def ljnC : CT := C1 dStrs (fun q => [q.n ≤ 3000, ∀ i, i < q.n → (q.g i).size ≤ 1000000]) fun q => XT (ljF q.g q.n)
theorem ljn_ok : CTok Tryz.prog 26 ljnC := C1_ok cx0_ok Tryz.func26 rfl (by decide) dSl_ok (by kernel_rfl) (fun _ => rfl) fun q hc => exv (ljV_eq q) (lj_v q (hc _ (.head _)) (hc _ (.tail _ (.head _))))
end Go.Proofs.YtkjcoehblekpdaaGreatDoorAv
namespace Go.Proofs.YtkjcoehblekpdaaGreatDoorAv
open Go Go.RowKit
def vlu (c : Int) : Int := if c ≥ 97 ∧ c ≤ 122 then c - 97 else if c ≥ 65 ∧ c ≤ 90 then c - 65 else if c ≥ 48 ∧ c ≤ 57 then c - 48 + 26 else 36
def dgt (d : Int) : Int := if d < 26 then 97 + d else 48 + d - 26
def thr (k b : Int) : Int := imin (imax (k - b) 1) 26
def vluV (c : Int) : Prop :=
 ((decide (c ≥ (97 : Int)) && decide (c ≤ (122 : Int))) = true → in64 (IntKind.u8.wrap (c - (97 : Int))) ∧ IntKind.u8.wrap (c - (97 : Int)) = vlu c) ∧ ((decide (c ≥ (97 : Int)) && decide (c ≤ (122 : Int))) = false → (decide (c ≥ (65 : Int)) = true → decide (c ≥ (65 : Int)) = true) ∧ (decide (c ≥ (65 : Int)) = true → decide (c ≥ (65 : Int)) = true) ∧ ((decide (c ≥ (65 : Int)) && decide (c ≤ (90 : Int))) = true → in64 (IntKind.u8.wrap (c - (65 : Int))) ∧ IntKind.u8.wrap (c - (65 : Int)) = vlu c) ∧ ((decide (c ≥ (65 : Int)) && decide (c ≤ (90 : Int))) = false → (decide (c ≥ (48 : Int)) = true → decide (c ≥ (48 : Int)) = true) ∧ (decide (c ≥ (48 : Int)) = true → decide (c ≥ (48 : Int)) = true) ∧ ((decide (c ≥ (48 : Int)) && decide (c ≤ (57 : Int))) = true → in64 (IntKind.u8.wrap (c - (48 : Int))) ∧ in64 (IntKind.u8.wrap (c - (48 : Int)) + (26 : Int)) ∧ IntKind.u8.wrap (c - (48 : Int)) + (26 : Int) = vlu c) ∧ ((decide (c ≥ (48 : Int)) && decide (c ≤ (57 : Int))) = false → (36 : Int) = vlu c)))
theorem vluV_eq (c : Int) : vluV c = (funC cx0 Tryz.f97 .nil [X8 c] (XI (vlu c))) := by kernel_rfl
def dgtV (d : Int) : Prop :=
 (decide (d < (26 : Int)) = true → in64 ((97 : Int) + d) ∧ IntKind.u8.wrap ((97 : Int) + d) = dgt d) ∧ (decide (d < (26 : Int)) = false → in64 ((48 : Int) + d) ∧ in64 ((48 : Int) + d - (26 : Int)) ∧ IntKind.u8.wrap ((48 : Int) + d - (26 : Int)) = dgt d)
theorem dgtV_eq (d : Int) : dgtV d = (funC cx0 Tryz.f100 .nil [XI d] (X8 (dgt d))) := by kernel_rfl
def thrV (k b : Int) : Prop :=
 in64 (k - b) ∧ imin (imax (k - b) 1) 26 = thr k b
theorem thrV_eq (k b : Int) : thrV k b = (funC cx0 Tryz.f98 .nil [XI k, XI b] (XI (thr k b))) := by kernel_rfl
def adG : Nat → Int → Int → Int × Int
 | 0, d, k => (d, k)
 | f + 1, d, k => if d ≤ 455 then (d, k) else adG f (d / 35) (k + 36)
def ad0 (d n : Int) (st : Bool) : Int := (if st = true then d / 700 else d / 2) + (if st = true then d / 700 else d / 2) / n
def adp (d n : Int) (st : Bool) : Int := (adG 9 (ad0 d n st) 0).2 + 36 * (adG 9 (ad0 d n st) 0).1 / ((adG 9 (ad0 d n st) 0).1 + 38)
structure AL where
 f : Nat
 d : Int
 k : Int
def adI (r : Int × Int) : Inv where
 σ := AL
 S := fun x => ⟨[(0, XI x.d), (7, XI x.k)], [], 0, false, []⟩
 inv := fun x => 0 ≤ x.d ∧ x.d ≤ 455 * 35 ^ x.f ∧ x.f ≤ 9 ∧ x.k = 36 * (9 - x.f) ∧ adG x.f x.d x.k = r
 μ := fun x => x.f
def adC1 (d n : Int) (st : Bool) : Inv where
 σ := AL
 S := fun x => ⟨[(0, XI x.d), (1, XI n)], [], 0, false, []⟩
 inv := fun x => x.d = if st = true then d / 700 else d / 2
 μ := fun x => 0
def adE (d n : Int) (st : Bool) : Env := { loops := [(0, adI (adG 9 (ad0 d n st) 0))], cuts := [(4, adC1 d n st)] }
def adpV (d n : Int) (st : Bool) : Prop :=
 ((st = true → (700 : Int) ≠ (0 : Int) ∧ ∃ (x : (adC1 d n st).σ), (x.d = if st = true then d / (700 : Int) else d / (2 : Int)) ∧ true = true ∧ IntKind.i64.wrap (d.tdiv 700) = x.d ∧ n = n ∧ True) ∧ (st = false → (2 : Int) ≠ (0 : Int) ∧ ∃ (x : (adC1 d n st).σ), (x.d = if st = true then d / (700 : Int) else d / (2 : Int)) ∧ true = true ∧ IntKind.i64.wrap (d.tdiv 2) = x.d ∧ n = n ∧ True)) ∧ ∀ (x : AL), (x.d = if st = true then d / (700 : Int) else d / (2 : Int)) → n ≠ (0 : Int) ∧ in64 (x.d + IntKind.i64.wrap (x.d.tdiv n)) ∧ (∃ (x_1 : (adI (adG 9 (ad0 d n st) 0)).σ), ((0 : Int) ≤ x_1.d ∧ x_1.d ≤ (455 : Int) * (35 : Int) ^ x_1.f ∧ x_1.f ≤ (9 : Nat) ∧ x_1.k = (36 : Int) * ((9 : Int) - (↑x_1.f : Int)) ∧ adG x_1.f x_1.d x_1.k = adG 9 (ad0 d n st) 0) ∧ true = true ∧ x.d + IntKind.i64.wrap (x.d.tdiv n) = x_1.d ∧ (0 : Int) = x_1.k ∧ True) ∧ ∀ (x : AL), (0 : Int) ≤ x.d ∧ x.d ≤ (455 : Int) * (35 : Int) ^ x.f ∧ x.f ≤ (9 : Nat) ∧ x.k = (36 : Int) * ((9 : Int) - (↑x.f : Int)) ∧ adG x.f x.d x.k = adG 9 (ad0 d n st) 0 → (decide (x.d > (455 : Int)) = true → (35 : Int) ≠ (0 : Int) ∧ in64 (x.k + (36 : Int)) ∧ ∃ (x' : (adI (adG 9 (ad0 d n st) 0)).σ), ((0 : Int) ≤ x'.d ∧ x'.d ≤ (455 : Int) * (35 : Int) ^ x'.f ∧ x'.f ≤ (9 : Nat) ∧ x'.k = (36 : Int) * ((9 : Int) - (↑x'.f : Int)) ∧ adG x'.f x'.d x'.k = adG 9 (ad0 d n st) 0) ∧ x'.f < x.f ∧ true = true ∧ IntKind.i64.wrap (x.d.tdiv 35) = x'.d ∧ x.k + (36 : Int) = x'.k ∧ True) ∧ (decide (x.d > (455 : Int)) = false → in64 ((36 : Int) * x.d) ∧ in64 (x.d + (38 : Int)) ∧ x.d + (38 : Int) ≠ (0 : Int) ∧ in64 (x.k + IntKind.i64.wrap (((36 : Int) * x.d).tdiv (x.d + (38 : Int)))) ∧ x.k + IntKind.i64.wrap (((36 : Int) * x.d).tdiv (x.d + (38 : Int))) = adp d n st)
theorem adpV_eq (d n : Int) (st : Bool) : adpV d n st = (funC cx0 Tryz.f76 (mkSc (adE d n st) (bodyOf Tryz.f76)) [XI d, XI n, XB st] (XI (adp d n st))) := by kernel_rfl
theorem vlu_v (c : Int) : vluV c := by
 unfold vluV vlu
 simp only [w8, in64]
 refine ⟨fun h => ?_, fun h => ⟨fun h => h, fun h => h, fun h1 => ?_, fun h1 => ⟨fun h => h, fun h => h, fun h2 => ?_, fun h2 => ?_⟩⟩⟩
 ·simp only [Bool.and_eq_true, decide_eq_true_eq] at h
  rw [if_pos h]; omega
 ·simp only [Bool.and_eq_true, decide_eq_true_eq] at h1
  rw [if_neg (by omega), if_pos h1]; omega
 ·simp only [Bool.and_eq_true, decide_eq_true_eq] at h2
  rw [if_neg (by omega), if_neg (by omega), if_pos h2]; omega
 ·simp only [Bool.and_eq_false_iff, decide_eq_false_iff_not] at h h1 h2
  rw [if_neg (by omega), if_neg (by omega), if_neg (by omega)]
theorem dgt_v (d : Int) (h0 : 0 ≤ d) (h1 : d < 36) : dgtV d := by
 unfold dgtV dgt
 simp only [w8, in64, decide_eq_true_eq, decide_eq_false_iff_not]
 refine ⟨fun h => ?_, fun h => ?_⟩
 ·rw [if_pos h]; omega
 ·rw [if_neg h]; omega
theorem thr_v (k b : Int) (h : in64 (k - b)) : thrV k b := by
 unfold thrV thr
 exact ⟨h, rfl⟩
theorem thr_rng (k b : Int) : 1 ≤ thr k b ∧ thr k b ≤ 26 := by
 unfold thr imin imax
 split <;> split <;> omega
theorem adG_done (f : Nat) (d k : Int) (h : d ≤ 455) : adG f d k = (d, k) := by
 cases f with
 | zero => rfl
 | succ f => rw [adG, if_pos h]
theorem wdiv {a b : Int} (ha : 0 ≤ a) (hb : 0 < b) (h : a ≤ 9223372036854775807) : IntKind.i64.wrap (a.tdiv b) = a / b := by
 rw [Int.tdiv_eq_ediv_of_nonneg ha]
 have h1 : 0 ≤ a / b := Int.ediv_nonneg ha (by omega)
 have h2 : a / b ≤ a := Int.ediv_le_self b ha
 exact wrap64_in (by omega) (by omega)
theorem adp_v (d n : Int) (st : Bool) (h0 : 0 ≤ d) (h1 : d ≤ 35000000000000000) (hn : 1 ≤ n) : adpV d n st := by
 unfold adpV
 refine ⟨⟨fun h => ⟨by decide, ⟨0, d / 700, 0⟩, by rw [h]; rfl, rfl, ?_, rfl, trivial⟩, fun h => ⟨by decide, ⟨0, d / 2, 0⟩, by rw [h]; rfl, rfl, ?_, rfl, trivial⟩⟩, ?_⟩
 ·exact wdiv h0 (by decide) (by omega)
 ·exact wdiv h0 (by decide) (by omega)
 rintro ⟨_, e, _⟩ he
 have he : e = if st = true then d / 700 else d / 2 := he
 have e0 : 0 ≤ e := by rw [he]; split <;> omega
 have e1 : e ≤ 17500000000000000 := by rw [he]; split <;> omega
 have hd := wdiv e0 (show 0 < n by omega) (by omega)
 have hd1 : 0 ≤ e / n := Int.ediv_nonneg e0 (by omega)
 have hd2 : e / n ≤ e := Int.ediv_le_self n e0
 have ha : e + e / n = ad0 d n st := by rw [he]; rfl
 dsimp only
 rw [hd]
 refine ⟨by omega, by unfold in64; omega, ⟨⟨9, e + e / n, 0⟩, ⟨by show 0 ≤ e + e / n; omega, by show e + e / n ≤ 455 * 35 ^ 9; omega, Nat.le_refl _, rfl, by rw [ha]⟩, rfl, rfl, rfl, trivial⟩, ?_⟩
 rintro ⟨f, x, k⟩ hI
 obtain ⟨i0, i1, i2, i3, i4⟩ : 0 ≤ x ∧ x ≤ 455 * 35 ^ f ∧ f ≤ 9 ∧ k = 36 * (9 - (f : Int)) ∧ adG f x k = adG 9 (ad0 d n st) 0 := hI
 have hp : (35 : Int) ^ f ≤ 35 ^ 9 := by
  have : (35 : Nat) ^ f ≤ 35 ^ 9 := Nat.pow_le_pow_right (by decide) i2
  exact_mod_cast this
 have hx : x ≤ 455 * 35 ^ 9 := by omega
 dsimp only
 refine ⟨fun h => ?_, fun h => ?_⟩
 ·have h : x > 455 := of_decide_eq_true h
  cases f with
  | zero => simp at i1; omega
  | succ f =>
   rw [wdiv i0 (by decide) (by omega)]
   refine ⟨by decide, by unfold in64; omega, ⟨f, x / 35, k + 36⟩, ⟨by show 0 ≤ x / 35; omega, ?_, by show f ≤ 9; omega, by show k + 36 = 36 * (9 - (f : Int)); omega, ?_⟩, by show f < f + 1; omega, rfl, rfl, rfl, trivial⟩
   ·show x / 35 ≤ 455 * 35 ^ f
    rw [Int.pow_succ] at i1
    generalize (35 : Int) ^ f = z at i1
    omega
   ·show adG f (x / 35) (k + 36) = _
    rw [← i4, adG, if_neg (by omega)]
 ·have h : ¬ x > 455 := of_decide_eq_false h
  have hg : (x, k) = adG 9 (ad0 d n st) 0 := by rw [← i4, adG_done _ _ _ (by omega)]
  have hq := wdiv (a := 36 * x) (b := x + 38) (by omega) (by omega) (by omega)
  have hq1 : 0 ≤ 36 * x / (x + 38) := Int.ediv_nonneg (by omega) (by omega)
  have hq2 : 36 * x / (x + 38) ≤ 36 * x := Int.ediv_le_self _ (by omega)
  rw [hq]
  refine ⟨by unfold in64; omega, by unfold in64; omega, by omega, by unfold in64; omega, ?_⟩
  unfold adp
  rw [← hg]
theorem adG_rng : ∀ (f : Nat) (d k : Int), 0 ≤ d → d ≤ 455 * 35 ^ f → 0 ≤ (adG f d k).1 ∧ (adG f d k).1 ≤ 455 ∧ k ≤ (adG f d k).2 ∧ (adG f d k).2 ≤ k + 36 * f
 | 0, d, k, h0, h1 => by simp at h1; simp [adG]; omega
 | f + 1, d, k, h0, h1 => by
  rw [adG]
  split
  ·dsimp only; omega
  ·rw [Int.pow_succ] at h1
   have := adG_rng f (d / 35) (k + 36) (by omega) (by generalize (35 : Int) ^ f = z at h1; omega)
   omega
theorem adp_rng (d n : Int) (st : Bool) (h0 : 0 ≤ d) (h1 : d ≤ 35000000000000000) (hn : 1 ≤ n) : 0 ≤ adp d n st ∧ adp d n st ≤ 400 := by
 have e0 : 0 ≤ (if st = true then d / 700 else d / 2) := by split <;> omega
 have e1 : (if st = true then d / 700 else d / 2) ≤ 17500000000000000 := by split <;> omega
 have hd1 : 0 ≤ (if st = true then d / 700 else d / 2) / n := Int.ediv_nonneg e0 (by omega)
 have hd2 : (if st = true then d / 700 else d / 2) / n ≤ (if st = true then d / 700 else d / 2) := Int.ediv_le_self n e0
 have h := adG_rng 9 (ad0 d n st) 0 (by unfold ad0; omega) (by unfold ad0; omega)
 unfold adp
 generalize adG 9 (ad0 d n st) 0 = p at h
 obtain ⟨a, b⟩ := p
 dsimp only at h ⊢
 have hq1 : 0 ≤ 36 * a / (a + 38) := Int.ediv_nonneg (by omega) (by omega)
 have hq2 : 36 * a / (a + 38) ≤ 36 := by
  apply Int.ediv_le_of_le_mul (by omega)
  omega
 omega
def vluC : CT := C1 (dIK .u8) (fun _ => []) fun c => XI (vlu c)
theorem vlu_ok : CTok Tryz.prog 97 vluC := C1_ok cx0_ok Tryz.func97 rfl (by decide) (dIK_eq .u8).ok (by kernel_rfl) (fun _ => rfl) fun c _ => exv (vluV_eq c) (vlu_v c)
def dgtC : CT := C1 dInt (fun d => [0 ≤ d, d < 36]) fun d => X8 (dgt d)
theorem dgt_ok : CTok Tryz.prog 100 dgtC := C1_ok cx0_ok Tryz.func100 rfl (by decide) dInt_eq.ok (by kernel_rfl) (fun _ => rfl) fun d hc => exv (dgtV_eq d) (dgt_v d (hc _ (by simp)) (hc _ (by simp)))
def thrC : CT := C2 dInt dInt (fun k b => [in64 (k - b)]) fun k b => XI (thr k b)
theorem thr_ok : CTok Tryz.prog 98 thrC := C2_ok cx0_ok Tryz.func98 rfl (by decide) dInt_eq.ok dInt_eq.ok (by kernel_rfl) (fun _ _ => rfl) fun k b hc => exv (thrV_eq k b) (thr_v k b (hc _ (by simp)))
def adpC : CT := C3 dInt dInt dBool (fun d n _ => [0 ≤ d, d ≤ 35000000000000000, 1 ≤ n]) fun d n st => XI (adp d n st)
theorem adp_ok : CTok Tryz.prog 76 adpC := C3_ok cx0_ok Tryz.func76 rfl (by decide) dInt_eq.ok dInt_eq.ok dBool_eq.ok (by kernel_rfl) (fun _ _ _ => rfl) fun d n st hc => exv (adpV_eq d n st) (adp_v d n st (hc _ (by simp)) (hc _ (by simp)) (hc _ (by simp)))
end Go.Proofs.YtkjcoehblekpdaaGreatDoorAv
namespace Go.Proofs.YtkjcoehblekpdaaGreatDoorAv
open Go Go.RowKit
section
variable {P : Program} {ρ : Rho} {F : Fr} {S : XS} {t : TM} {L : GH} {w : World}
theorem relS {L0 : GH} {og : Option Nat} {e : TypeId} {sz n : Nat} {f : Nat → List XV} {rest : List XV} (hF : Fre L0 og) (hn : og = none → n = 0) (hp : pdL rest = true) :
  Rel ⟨L0, 0, []⟩ (fun i => if i = 0 then some og else none) ⟨(0, .sl 0 sz 0 n) :: xslots 1 rest, [(0, .vec e true n sz f)], 1, false, []⟩ (tm0 (hv og sz n :: toAVL rest)) (updo L0 og ⟨e, true, vecOf n sz fun i => toAVL (f i)⟩) := by
 refine ⟨fun i => ?_, fun id r hfr => ?_, fun i j g' hi hj _ _ => ?_, fun id hid => ?_, fun b r hb => ?_, fun h => (by cases h), by simp [RVL]⟩
 ·show RV _ (look ((0, .sl 0 sz 0 n) :: xslots 1 rest) i) _
  rw [look_put]
  by_cases hi : i = 0
  ·rw [if_pos hi, hi]
   cases og with
   | some g => simp only [RV]; exact .inl ⟨g, by simp, by simp [tm0, hv]⟩
   | none => simp only [RV]; exact .inr ⟨by simp, hn rfl, trivial, by simp [tm0, hv]⟩
  ·rw [if_neg hi]
   rcases look_slots 1 (pd_RVL (fun i => if i = 0 then some og else none) rest hp) i with k | k
   ·rw [if_pos (by omega)] at k
    have : tm0 (hv og sz n :: toAVL rest) i = (toAVL rest).getD (i - 1) .top := by
     obtain ⟨j, rfl⟩ : ∃ j, i = j + 1 := ⟨i - 1, by omega⟩
     simp [tm0]
    rw [this]; exact k
   ·rw [k]; simp [RV]
 ·rw [findR_put] at hfr
  by_cases hid : id = 0
  ·rw [if_pos hid] at hfr
   obtain rfl := Option.some.inj hfr
   subst hid
   cases og with
   | some g => exact .inl ⟨g, _, by simp, upd_same _ _ _, by simp only [RRow]⟩
   | none => obtain rfl := hn rfl; exact .inr ⟨by simp, e, sz, f, rfl⟩
  ·rw [if_neg hid] at hfr; simp [findR] at hfr
 ·rw [findR_put] at hi hj
  have a1 : i = 0 := by
   by_cases h : i = 0
   ·exact h
   ·rw [if_neg h] at hi; simp [findR] at hi
  have a2 : j = 0 := by
   by_cases h : j = 0
   ·exact h
   ·rw [if_neg h] at hj; simp [findR] at hj
  rw [a1, a2]
 ·simp only at hid
  rw [if_neg (by omega)]
 ·have hne : ∀ g, og = some g → b ≠ g := by
   rintro g h rfl
   have hb : L0 b = some r := hb
   rw [hF b h] at hb; cases hb
  constructor
  ·cases og with
   | none => exact hb
   | some g => show upd L0 g _ b = _; rw [upd_ne _ _ _ _ (hne g rfl)]; exact hb
  ·intro id hid
   by_cases h : id = 0
   ·rw [if_pos h]
    intro h2
    exact hne b (Option.some.inj h2) rfl
   ·rw [if_neg h]; simp
theorem sv_ok {X : Cx} (hX : X.ok P) {f0 : FuncId} {fn : Func} (hf : P.funcs[f0]? = some fn) (hb : fn.body = some (bodyOf fn)) (hr : (fn.name == "runtime.NumGoroutine") = false) {e : TypeId} {sz : Nat} {C : SvT}
  (h : ∀ n f rest cs m g, C n f rest = some (cs, m, g) → (∀ p ∈ cs, p) → Nat.ble (rest.length + 1) fn.ntmps = true ∧ pdL rest = true ∧ ∃ f', (∀ j, j < n → f j = f' j) ∧ ∃ sc, funS X fn sc e sz n f' rest m g) : ITok P f0 (itS e sz C) := by
 refine ⟨⟨fn, _, hf, hb, hr⟩, fun args S K hT F ρ t L bs hR0 ha => ?_⟩
 unfold itS at hT
 split at hT
 case h_2 => exact hT.elim
 rename_i id s n rest
 split at hT
 case h_2 => exact hT.elim
 rename_i e' n' s' f hq
 split at hT
 case h_2 => exact hT.elim
 rename_i cs m g q1 q2 q3 hC
 obtain ⟨rfl, hT⟩ := hT
 obtain ⟨hc, hK⟩ := andK_all _ _ hT
 rw [beqN, decide_eq_true_eq] at q1 q2 q3
 subst q1 q2 q3
 have hR := hR0.pl
 obtain ⟨b0, bs', rfl⟩ : ∃ b0 bs', bs = b0 :: bs' := by
  cases bs with
  | nil => simp [RVL] at ha
  | cons b l => exact ⟨b, l, rfl⟩
 simp only [RVL] at ha
 obtain ⟨ha0, ha⟩ := ha
 obtain ⟨h0, h1, f', hff, sc, h2⟩ := h _ _ _ _ _ _ hC hc
 have hbs := RVL.pd _ _ h1 ha
 subst hbs
 rw [bleN, decide_eq_true_eq] at h0
 have go : ∀ (L0 : GH) (og : Option Nat), L = updo L0 og ⟨e', true, vecOf n' s' fun i => toAVL (f i)⟩ → Fre L0 og → ρ id = some og → b0 = hv og s' n' → (og = none → n' = 0) →
   JF P f0 (b0 :: toAVL rest) L fun v L' => ∃ ρ' S' t' xv, Rel F ρ' S' t' L' ∧ RV ρ' xv v ∧ K xv S' := by
  intro L0 og hL hF hid hb0 hn
  subst hL hb0
  have hvf : vecOf n' s' (fun i => toAVL (f i)) = vecOf n' s' fun i => toAVL (f' i) := vecOf_congr fun j hj => by rw [hff j hj]
  rw [hvf] at hR ⊢
  refine (fun_ok hX hf hb (by simp only [List.length_cons, toAVL_length]; exact h0) (relS hF hn h1) h2).conv ?_
  rintro b L1 w x ⟨ρ', S', t', xv, hR', hv', hq'⟩ hrows hx
  unfold slIs at hq'
  split at hq'
  case h_2 => exact hq'.elim
  rename_i id' s'' n''
  split at hq'
  case h_2 => exact hq'.elim
  rename_i e'' ap n3 s3 f3 hf3
  obtain ⟨⟨rfl, rfl, rfl, rfl⟩, rfl, rfl, hfg⟩ := hq'
  have hvec : vecOf n3 s3 (fun j => toAVL (f3 j)) = vecOf n3 s3 fun j => toAVL (g j) := vecOf_congr fun j hj => by rw [hfg j hj]
  simp only [RV] at hv'
  rcases hv' with ⟨g1, hg1, rfl⟩ | ⟨hg1, hm0, -, rfl⟩
  ·obtain ⟨row, hL1, hrow⟩ := (hR'.rw id' _ hf3).some_g hg1
   simp only [RRow] at hrow
   rw [hvec] at hrow
   have hF1 : L0 g1 = none := by
    cases hF1 : L0 g1 with
    | none => rfl
    | some r => exact absurd hg1 ((hR'.fr g1 r hF1).2 id' (by rw [hf3]; rfl))
   have hd : ∀ b, L1 b = none → upd L0 g1 row b = none := fun b hb => by
    rw [upd_ne]
    ·exact dom_F hR' b hb
    ·rintro rfl; rw [hL1] at hb; cases hb
   refine ⟨_, updo L0 (some g1) row, VS.ext (Ext.drop w hd) _ _ hx, fun b r hb => ?_, hd, ρ.set id (some g1), _, t, .sl id s3 0 n3, Rel.renew hR hF hq hid (fun g h => by obtain rfl := Option.some.inj h; exact hF1) (fun e ap cs h => by cases h) (.inl ⟨g1, rfl, by simp only [RRow]; exact hrow⟩), ?_, hK⟩
   ·by_cases hbg : b = g1
    ·subst hbg
     have hb : upd L0 b row b = some r := hb
     rw [upd_same] at hb
     obtain rfl := Option.some.inj hb
     exact (hrows b row hL1).ext (Ext.drop w hd) rfl
    ·have hb : upd L0 g1 row b = some r := hb
     rw [upd_ne _ _ _ _ hbg] at hb
     exact (hrows b r (hR'.fr b r hb).1).ext (Ext.drop w hd) rfl
   ·simp only [RV]
    exact .inl ⟨g1, set_same _ _ _, rfl⟩
  ·subst hm0
   refine ⟨_, updo L0 none ⟨e'', true, []⟩, VS.ext (Ext.drop w (dom_F hR')) _ _ hx, rows_F hR' hrows, dom_F hR', ρ.set id none, _, t, .sl id s3 0 0, Rel.renew hR hF hq hid (fun g h => by cases h) (fun e ap cs h => by cases h) (.inr ⟨rfl, e'', s3, g, rfl⟩), ?_, hK⟩
   simp only [RV]
   exact .inr ⟨set_same _ _ _, trivial, trivial, trivial⟩
 simp only [RV] at ha0
 rcases ha0 with ⟨g0, hid, rfl⟩ | ⟨hid, hn0, -, rfl⟩
 ·obtain ⟨row, hL, hrow⟩ := (hR.rw id _ hq).some_g hid
  simp only [RRow] at hrow
  subst hrow
  have := go (del L g0) (some g0) (by
   funext b'
   simp only [updo, upd, del]
   split
   ·rename_i hb'; rw [hb', hL]
   ·rfl) (fun g' h => by obtain rfl := Option.some.inj h; simp [del]) hid (by simp [hv]) (fun h => by cases h)
  exact this
 ·exact go L none rfl (fun g' h => by cases h) hid rfl (fun _ => hn0)
theorem exvS {X : Cx} {fn : Func} {e : TypeId} {sz n : Nat} {f : Nat → List XV} {rest : List XV} {m : Nat} {g : Nat → List XV} {p : Prop} {sc : Sc} (h0 : p = funS X fn sc e sz n f rest m g) (h : p) : ∃ sc, funS X fn sc e sz n f rest m g := ⟨sc, h0 ▸ h⟩
theorem Cx.ok.setK {X : Cx} (hX : X.ok P) (b : Bool) : ({ X with K := b } : Cx).ok P := ⟨hX.U, hX.I, hX.C, hX.H, hX.N, hX.M, hX.L, hX.E⟩
end
end Go.Proofs.YtkjcoehblekpdaaGreatDoorAv
namespace Go.Proofs.YtkjcoehblekpdaaGreatDoorAv
open Go Go.RowKit
def nmG (b : Int) : Nat → Int → Int → List Int
 | 0, _, _ => []
 | f + 1, q, k => if q < thr k b then [dgt q] else dgt (thr k b + (q - thr k b) % (36 - thr k b)) :: nmG b f ((q - thr k b) / (36 - thr k b)) (k + 36)
def num (q b : Int) : List Int := nmG b 19 q 36
def nmK (c : List Int) (b : Int) (f : Nat) (q k : Int) : List Int := c ++ nmG b f q k
def cxn : Cx := { cx0 with C := [(98, thrC), (100, dgtC)] }
theorem cxn_ok : cxn.ok Tryz.prog := (cx0_ok.addC dgt_ok).addC thr_ok
structure NS where
 f : Nat
 q : Int
 k : Int
 c : List Int
def nmC (n : Nat) (h : Nat → Int) (c : List Int) (j : Nat) : Int := if j < n then h j else c.getD (j - n) 0
def nmI (n : Nat) (h : Nat → Int) (q0 b : Int) : Inv where
 σ := NS
 S := fun x => ⟨[(0, .sl 0 1 0 (n + x.c.length)), (1, XI x.q), (2, XI b), (7, XI x.k)], [(0, .vec 5 true (n + x.c.length) 1 fun j => [X8 (nmC n h x.c j)])], 1, false, []⟩
 inv := fun x => 0 ≤ x.q ∧ x.q < 10 ^ x.f ∧ x.f ≤ 18 ∧ x.k = 36 * (19 - x.f) ∧ nmK x.c b (x.f + 1) x.q x.k = num q0 b ∧ x.c.length + x.f = 18
 μ := fun x => x.f
def nmE (n : Nat) (h : Nat → Int) (q0 b : Int) : Env := { loops := [(0, nmI n h q0 b)] }
def numV (n : Nat) (h : Nat → Int) (q b : Int) : Prop :=
 (∃ (x : (nmI n h q b).σ), ((0 : Int) ≤ x.q ∧ x.q < (10 : Int) ^ x.f ∧ x.f ≤ (18 : Nat) ∧ x.k = (36 : Int) * ((19 : Int) - (↑x.f : Int)) ∧ nmK x.c b (x.f + (1 : Nat)) x.q x.k = num q b ∧ x.c.length + x.f = (18 : Nat)) ∧ true = true ∧ XV.sl 0 1 0 n = XV.sl 0 1 0 (n + x.c.length) ∧ q = x.q ∧ b = b ∧ (36 : Int) = x.k ∧ (((5 : TypeId) = (5 : TypeId) ∧ true = true ∧ (1 : Nat) = (1 : Nat)) ∧ n = n + x.c.length ∧ ∀ (j : Nat), j < n → [X8 (h j)] = [X8 (nmC n h x.c j)]) ∧ True) ∧ ∀ (x : NS), (0 : Int) ≤ x.q ∧ x.q < (10 : Int) ^ x.f ∧ x.f ≤ (18 : Nat) ∧ x.k = (36 : Int) * ((19 : Int) - (↑x.f : Int)) ∧ nmK x.c b (x.f + (1 : Nat)) x.q x.k = num q b ∧ x.c.length + x.f = (18 : Nat) → in64 (x.k - b) ∧ (decide (x.q < thr x.k b) = true → (0 : Int) ≤ x.q ∧ x.q < (36 : Int) ∧ n + x.c.length = n + x.c.length ∧ (n + x.c.length + (1 : Nat)) * (1 : Nat) ≤ (140737488355328 : Nat) ∧ n + x.c.length + (1 : Nat) ≤ (140737488355328 : Nat) ∧ ((5 : TypeId) = (5 : TypeId) ∧ true = true ∧ (1 : Nat) = (1 : Nat) ∧ (1 : Nat) = (1 : Nat)) ∧ n + x.c.length + (1 : Nat) = n + x.c.length + (1 : Nat) ∧ n + x.c.length + (1 : Nat) = n + (num q b).length ∧ ∀ (j : Nat), j < n + (num q b).length → [X8 (bif j.blt (n + x.c.length) then nmC n h x.c j else dgt x.q)] = [X8 (nmC n h (num q b) j)]) ∧ (decide (x.q < thr x.k b) = false → in64 (x.q - thr x.k b) ∧ in64 ((36 : Int) - thr x.k b) ∧ (36 : Int) - thr x.k b ≠ (0 : Int) ∧ in64 (thr x.k b + (x.q - thr x.k b).tmod ((36 : Int) - thr x.k b)) ∧ (0 : Int) ≤ thr x.k b + (x.q - thr x.k b).tmod ((36 : Int) - thr x.k b) ∧ thr x.k b + (x.q - thr x.k b).tmod ((36 : Int) - thr x.k b) < (36 : Int) ∧ n + x.c.length = n + x.c.length ∧ (n + x.c.length + (1 : Nat)) * (1 : Nat) ≤ (140737488355328 : Nat) ∧ n + x.c.length + (1 : Nat) ≤ (140737488355328 : Nat) ∧ in64 (x.q - thr x.k b) ∧ in64 ((36 : Int) - thr x.k b) ∧ (36 : Int) - thr x.k b ≠ (0 : Int) ∧ in64 (x.k + (36 : Int)) ∧ ∃ (x' : (nmI n h q b).σ), ((0 : Int) ≤ x'.q ∧ x'.q < (10 : Int) ^ x'.f ∧ x'.f ≤ (18 : Nat) ∧ x'.k = (36 : Int) * ((19 : Int) - (↑x'.f : Int)) ∧ nmK x'.c b (x'.f + (1 : Nat)) x'.q x'.k = num q b ∧ x'.c.length + x'.f = (18 : Nat)) ∧ x'.f < x.f ∧ true = true ∧ XV.sl 0 1 0 (n + x.c.length + (1 : Nat)) = XV.sl 0 1 0 (n + x'.c.length) ∧ IntKind.i64.wrap ((x.q - thr x.k b).tdiv ((36 : Int) - thr x.k b)) = x'.q ∧ b = b ∧ x.k + (36 : Int) = x'.k ∧ (((5 : TypeId) = (5 : TypeId) ∧ true = true ∧ (1 : Nat) = (1 : Nat)) ∧ n + x.c.length + (1 : Nat) = n + x'.c.length ∧ ∀ (j : Nat), j < n + x.c.length + (1 : Nat) → [X8 (bif j.blt (n + x.c.length) then nmC n h x.c j else dgt (thr x.k b + (x.q - thr x.k b).tmod ((36 : Int) - thr x.k b)))] = [X8 (nmC n h x'.c j)]) ∧ True)
theorem numV_eq (n : Nat) (h : Nat → Int) (q b : Int) : numV n h q b = (funS cxn Tryz.f75 (mkSc (nmE n h q b) (bodyOf Tryz.f75)) 5 1 n (fun j => [X8 (h j)]) [XI q, XI b] (n + (num q b).length) (fun j => [X8 (nmC n h (num q b) j)])) := by kernel_rfl
theorem nmG_no {b q k : Int} {f : Nat} (h : ¬ q < thr k b) : nmG b (f + 1) q k = dgt (thr k b + (q - thr k b) % (36 - thr k b)) :: nmG b f ((q - thr k b) / (36 - thr k b)) (k + 36) := by rw [nmG, if_neg h]
theorem nmG_len (b : Int) : ∀ (f : Nat) (q k : Int), (nmG b f q k).length ≤ f
 | 0, q, k => Nat.le_refl _
 | f + 1, q, k => by
  rw [nmG]
  split
  ·simp
  ·have := nmG_len b f ((q - thr k b) / (36 - thr k b)) (k + 36)
   simp only [List.length_cons]; omega
theorem num_len (q b : Int) : (num q b).length ≤ 19 := nmG_len b 19 q 36
theorem nmC_snoc (n : Nat) (h : Nat → Int) (c : List Int) (d : Int) (j : Nat) (hj : j < n + c.length + 1) : nmC n h (c ++ [d]) j = bif Nat.blt j (n + c.length) then nmC n h c j else d := by
 unfold nmC
 rw [bltN]
 by_cases e : j < n + c.length
 ·rw [decide_eq_true e]
  by_cases e1 : j < n
  ·rw [if_pos e1, if_pos e1]; rfl
  ·rw [if_neg e1, if_neg e1, List.getD_eq_getElem?_getD, List.getD_eq_getElem?_getD, List.getElem?_append_left (by omega)]; rfl
 ·rw [decide_eq_false e, if_neg (by omega), show j - n = c.length by omega]
  simp
theorem nmC_snoc' (n : Nat) (h : Nat → Int) (c : List Int) (d : Int) (j : Nat) (hj : j < n + c.length + 1) : ([X8 (bif j.blt (n + c.length) then nmC n h c j else d)] : List XV) = [X8 (nmC n h (c ++ [d]) j)] := by
 rw [nmC_snoc n h c d j hj]
theorem num_v (n : Nat) (h : Nat → Int) (q b : Int) (h0 : 0 ≤ q) (h1 : q < 1000000000000000000) (hb : -1000 ≤ b) (hb1 : b ≤ 1000) (hn : n ≤ 1000000) : numV n h q b := by
 unfold numV
 refine ⟨⟨⟨18, q, 36, []⟩, ⟨h0, h1, Nat.le_refl _, rfl, rfl, rfl⟩, rfl, rfl, rfl, rfl, rfl, ⟨⟨rfl, rfl, rfl⟩, rfl, fun j hj => by show [X8 (h j)] = [X8 (nmC n h [] j)]; unfold nmC; rw [if_pos hj]⟩, trivial⟩, ?_⟩
 rintro ⟨f, q', k, c⟩ hI
 obtain ⟨i0, i1, i2, i3, i4, i5⟩ : 0 ≤ q' ∧ q' < 10 ^ f ∧ f ≤ 18 ∧ k = 36 * (19 - (f : Int)) ∧ nmK c b (f + 1) q' k = num q b ∧ c.length + f = 18 := hI
 unfold nmK at i4
 have hp : (10 : Int) ^ f ≤ 10 ^ 18 := by
  have : (10 : Nat) ^ f ≤ 10 ^ 18 := Nat.pow_le_pow_right (by decide) i2
  exact_mod_cast this
 have ht := thr_rng k b
 have hq : q' < 10 ^ 18 := by omega
 dsimp only
 refine ⟨by unfold in64; omega, fun h1 => ?_, fun h1 => ?_⟩
 ·have h1 : q' < thr k b := of_decide_eq_true h1
  have hg : num q b = c ++ [dgt q'] := by rw [← i4, nmG, if_pos h1]
  refine ⟨by omega, by omega, rfl, by omega, by omega, ⟨rfl, rfl, rfl, rfl⟩, rfl, by rw [hg, List.length_append]; rfl, fun j hj => ?_⟩
  rw [hg]
  exact nmC_snoc' n h c _ j (by rw [hg, List.length_append] at hj; exact hj)
 ·have hlt : ¬ q' < thr k b := of_decide_eq_false h1
  clear h1
  cases f with
  | zero => simp at i1; omega
  | succ f =>
   have hg : c ++ (dgt (thr k b + (q' - thr k b) % (36 - thr k b)) :: nmG b (f + 1) ((q' - thr k b) / (36 - thr k b)) (k + 36)) = num q b := by rw [← i4, nmG_no hlt]
   generalize thr k b = t at *
   have e1 : (q' - t).tmod (36 - t) = (q' - t) % (36 - t) := Int.tmod_eq_emod_of_nonneg (by omega)
   have e2 := wdiv (a := q' - t) (b := 36 - t) (by omega) (by omega) (by omega)
   rw [e1, e2]
   have r1 : 0 ≤ (q' - t) % (36 - t) := Int.emod_nonneg _ (by omega)
   have r2 : (q' - t) % (36 - t) < 36 - t := Int.emod_lt_of_pos _ (by omega)
   have r3 : 0 ≤ (q' - t) / (36 - t) := Int.ediv_nonneg (by omega) (by omega)
   have r4 : (q' - t) / (36 - t) < 10 ^ f := by
    rw [Int.pow_succ] at i1
    have hp0 : (0 : Int) ≤ 10 ^ f := Int.le_of_lt (Int.pow_pos (by decide))
    apply Int.ediv_lt_of_lt_mul (by omega)
    generalize (10 : Int) ^ f = z at *
    have : z * 10 ≤ z * (36 - t) := Int.mul_le_mul_of_nonneg_left (by omega) hp0
    omega
   refine ⟨by unfold in64; omega, by unfold in64; omega, by omega, by unfold in64; omega, by omega, by omega, rfl, by omega, by omega, by unfold in64; omega, by unfold in64; omega, by omega, by unfold in64; omega,
    ⟨f, (q' - t) / (36 - t), k + 36, c ++ [dgt (t + (q' - t) % (36 - t))]⟩, ⟨r3, r4, by show f ≤ 18; omega, by show k + 36 = 36 * (19 - (f : Int)); omega, ?_, by show (c ++ [_]).length + f = 18; rw [List.length_append]; show c.length + 1 + f = 18; omega⟩, by show f < f + 1; omega, rfl, ?_, rfl, rfl, rfl, ⟨⟨rfl, rfl, rfl⟩, ?_, fun j hj => nmC_snoc' n h c _ j hj⟩, trivial⟩
   ·show (c ++ [_]) ++ _ = _
    rw [List.append_assoc]
    exact hg
   ·dsimp only; rw [List.length_append]; rfl
   ·dsimp only; rw [List.length_append]; rfl
def int8 : XV → Int
 | .v (.p (.int .u8 i)) => i
 | _ => 0
def numC : SvT := fun n f rest => match rest with
 | [.v (.p (.int .i64 q)), .v (.p (.int .i64 b))] => some ([∀ j, j < n → f j = [X8 (int8 (xget (f j) 0))], 0 ≤ q, q < 1000000000000000000, -1000 ≤ b, b ≤ 1000, n ≤ 1000000], n + (num q b).length, fun j => [X8 (nmC n (fun j => int8 (xget (f j) 0)) (num q b) j)])
 | _ => none
def cxe : Cx := { cx0 with C := [(76, adpC)], L := [(75, itS 5 1 numC)] }
def eo0 (g : Nat → Int) : Nat → List Int
 | 0 => []
 | i + 1 => if g i < 128 then eo0 g i ++ [g i] else eo0 g i
def mnr (g : Nat → Int) (n : Int) : Nat → Int
 | 0 => 1114112
 | i + 1 => if g i ≥ n ∧ g i < mnr g n i then g i else mnr g n i
structure ES where
 h : Int
 d : Int
 b : Int
 o : List Int
def stp (h0 m : Int) (s : ES) (r : Int) : ES :=
 if r = m then ⟨s.h + 1, 0, adp s.d (s.h + 1) (s.h == h0), s.o ++ num s.d s.b⟩ else if r < m then { s with d := s.d + 1 } else s
def fol (g : Nat → Int) (h0 m : Int) (s : ES) : Nat → ES
 | 0 => s
 | i + 1 => stp h0 m (fol g h0 m s i) (g i)
def rnd (g : Nat → Int) (len : Nat) (h0 n : Int) (s : ES) : ES :=
 fol g h0 (mnr g n len) { s with d := s.d + (mnr g n len - n) * (s.h + 1) } len
def encG (g : Nat → Int) (len : Nat) (h0 : Int) : Nat → Int → ES → List Int × Int
 | 0, _, s => if s.o.length > 63 then ([], 2) else (s.o, 0)
 | f + 1, n, s => if s.o.length > 63 then ([], 2) else if s.h < len then encG g len h0 f (mnr g n len + 1) { rnd g len h0 n s with d := (rnd g len h0 n s).d + 1 } else (s.o, 0)
def eo1 (g : Nat → Int) (len : Nat) : List Int := if 0 < (eo0 g len).length then eo0 g len ++ [45] else eo0 g len
def encR (g : Nat → Int) (len : Nat) : List Int × Int := encG g len (eo0 g len).length len 128 ⟨(eo0 g len).length, 0, 72, eo1 g len⟩
def txtO (o : List Int) : ByteArray := txtOf o.length fun j => UInt8.ofNat (o.getD (0 + j) 0).toNat
structure OS where
 n : Int
 s : ES
 f : Nat
abbrev rnX (q : Sq Int) : XV := .fz q.n 1 fun i => [X32 (q.g i)]
def clt (g : Nat → Int) (n : Int) : Nat → Int
 | 0 => 0
 | i + 1 => if g i < n then clt g n i + 1 else clt g n i
def rowO (o : List Int) : XRow := .vec 5 true o.length 1 fun j => [X8 (o.getD j 0)]
def oOK (o : List Int) : Prop := ∀ x ∈ o, 0 ≤ x ∧ x < 128
def enI0 (q : Sq Int) : Inv where
 σ := IL
 S := fun x => ⟨[(0, rnX q), (4, .sl 0 1 0 (eo0 q.g x.i).length), (17, rnX q), (18, XI q.n), (19, XI x.i)], [(0, rowO (eo0 q.g x.i))], 1, false, []⟩
 inv := fun x => x.i ≤ q.n
 μ := fun x => q.n - x.i
structure OK2 (q : Sq Int) (h0 : Int) (x : OS) : Prop where
 n : 128 ≤ x.n ∧ x.n ≤ 1114112
 h : x.s.h = clt q.g x.n q.n
 h0 : 0 ≤ h0 ∧ h0 ≤ x.s.h
 d : 0 ≤ x.s.d ∧ x.s.d ≤ (q.n - x.f) * 2300000000
 b : 0 ≤ x.s.b ∧ x.s.b ≤ 400
 o : oOK x.s.o
 l : x.s.o.length ≤ 50000
 f : (q.n : Int) - x.s.h ≤ x.f ∧ x.f ≤ q.n
def enI2 (q : Sq Int) : Inv where
 σ := OS
 S := fun x => ⟨[(0, rnX q), (4, .sl 0 1 0 x.s.o.length), (7, XI x.s.h), (8, XI (eo0 q.g q.n).length), (9, X32 x.n), (10, XI x.s.d), (11, XI x.s.b)], [(0, rowO x.s.o)], 1, false, []⟩
 inv := fun x => OK2 q (eo0 q.g q.n).length x ∧ encG q.g q.n (eo0 q.g q.n).length x.f x.n x.s = encR q.g q.n
 μ := fun x => x.f
def enI4 (q : Sq Int) (y : OS) : Inv where
 σ := IL
 S := fun x => ⟨[(0, rnX q), (4, .sl 0 1 0 y.s.o.length), (7, XI y.s.h), (8, XI (eo0 q.g q.n).length), (9, X32 y.n), (10, XI y.s.d), (11, XI y.s.b), (12, X32 (mnr q.g y.n x.i)), (46, rnX q), (47, XI q.n), (48, XI x.i)], [(0, rowO y.s.o)], 1, false, []⟩
 inv := fun x => x.i ≤ q.n
 μ := fun x => q.n - x.i
def fo1 (q : Sq Int) (y : OS) (i : Nat) : ES := fol q.g (eo0 q.g q.n).length (mnr q.g y.n q.n) { y.s with d := y.s.d + (mnr q.g y.n q.n - y.n) * (y.s.h + 1) } i
def enI6 (q : Sq Int) (y : OS) : Inv where
 σ := IL
 S := fun x => ⟨[(0, rnX q), (4, .sl 0 1 0 (fo1 q y x.i).o.length), (7, XI (fo1 q y x.i).h), (8, XI (eo0 q.g q.n).length), (9, X32 (mnr q.g y.n q.n)), (10, XI (fo1 q y x.i).d), (11, XI (fo1 q y x.i).b), (72, rnX q), (73, XI q.n), (74, XI x.i)], [(0, rowO (fo1 q y x.i).o)], 1, false, []⟩
 inv := fun x => x.i ≤ q.n
 μ := fun x => q.n - x.i
def enC (q : Sq Int) : Inv where
 σ := IL
 S := fun x => ⟨[(0, rnX q), (4, .sl 0 1 0 (eo1 q.g q.n).length), (7, XI (eo0 q.g q.n).length), (8, XI (eo0 q.g q.n).length)], [(0, rowO (eo1 q.g q.n))], 1, false, []⟩
 inv := fun x => True
 μ := fun x => 0
def enE (q : Sq Int) : Env := { cuts := [(12, enC q)], loops := [(0, enI0 q), (2, enI2 q)], loopsP := [(4, ⟨OS, enI4 q⟩), (6, ⟨OS, enI6 q⟩)], own := [(2, [(4, 5, 1)])] }
def encV_a (q : Sq Int) :=
 ((XV.fz q.n 1 fun (i : Nat) => [X32 (q.g i)]) = XV.fz q.n 1 fun (i : Nat) => [X32 (q.g i)])
def encV_b :=
 ((5 : TypeId) = (5 : TypeId) ∧ true = true ∧ (1 : Nat) = (1 : Nat))
def encV (q : Sq Int) : Prop :=
 (∃ (x : (enI0 q).σ), x.i.le q.n ∧ true = true ∧ (encV_a q) ∧ XV.sl 0 1 0 0 = XV.sl 0 1 0 (eo0 q.g x.i).length ∧ (encV_a q) ∧ (↑q.n : Int) = (↑q.n : Int) ∧ (0 : Int) = (↑x.i : Int) ∧ (((5 : Nat) = (5 : TypeId) ∧ true = true ∧ (1 : Nat) = (1 : Nat)) ∧ (0 : Nat) = (eo0 q.g x.i).length ∧ ∀ (j : Nat), j < (0 : Nat) → [] = [X8 ((eo0 q.g x.i).getD j 0)]) ∧ True) ∧ ∀ (x : IL), x.i.le q.n → (decide ((↑x.i : Int) < (↑q.n : Int)) = true → (0 : Int) ≤ (↑x.i : Int) ∧ (↑x.i : Int) < (↑q.n : Int) ∧ (decide (q.g (↑x.i : Int).toNat < (128 : Int)) = true → (eo0 q.g x.i).length = (eo0 q.g x.i).length ∧ ((eo0 q.g x.i).length + (1 : Nat)) * (1 : Nat) ≤ (140737488355328 : Nat) ∧ (eo0 q.g x.i).length + (1 : Nat) ≤ (140737488355328 : Nat) ∧ in64 ((↑x.i : Int) + (1 : Int)) ∧ ∃ (x' : (enI0 q).σ), x'.i.le q.n ∧ q.n - x'.i < q.n - x.i ∧ true = true ∧ (encV_a q) ∧ XV.sl 0 1 0 ((eo0 q.g x.i).length + (1 : Nat)) = XV.sl 0 1 0 (eo0 q.g x'.i).length ∧ (encV_a q) ∧ (↑q.n : Int) = (↑q.n : Int) ∧ (↑x.i : Int) + (1 : Int) = (↑x'.i : Int) ∧ (encV_b ∧ (eo0 q.g x.i).length + (1 : Nat) = (eo0 q.g x'.i).length ∧ ∀ (j : Nat), j < (eo0 q.g x.i).length + (1 : Nat) → [X8 (bif j.blt (eo0 q.g x.i).length then (eo0 q.g x.i).getD j 0 else IntKind.u8.wrap (q.g (↑x.i : Int).toNat))] = [X8 ((eo0 q.g x'.i).getD j 0)]) ∧ True) ∧ (decide (q.g (↑x.i : Int).toNat < (128 : Int)) = false → in64 ((↑x.i : Int) + (1 : Int)) ∧ ∃ (x' : (enI0 q).σ), x'.i.le q.n ∧ q.n - x'.i < q.n - x.i ∧ true = true ∧ (encV_a q) ∧ XV.sl 0 1 0 (eo0 q.g x.i).length = XV.sl 0 1 0 (eo0 q.g x'.i).length ∧ (encV_a q) ∧ (↑q.n : Int) = (↑q.n : Int) ∧ (↑x.i : Int) + (1 : Int) = (↑x'.i : Int) ∧ (encV_b ∧ (eo0 q.g x.i).length = (eo0 q.g x'.i).length ∧ ∀ (j : Nat), j < (eo0 q.g x.i).length → [X8 ((eo0 q.g x.i).getD j 0)] = [X8 ((eo0 q.g x'.i).getD j 0)]) ∧ True)) ∧ (decide ((↑x.i : Int) < (↑q.n : Int)) = false → ((decide ((↑(eo0 q.g x.i).length : Int) > (0 : Int)) = true → (eo0 q.g x.i).length = (eo0 q.g x.i).length ∧ ((eo0 q.g x.i).length + (1 : Nat)) * (1 : Nat) ≤ (140737488355328 : Nat) ∧ (eo0 q.g x.i).length + (1 : Nat) ≤ (140737488355328 : Nat) ∧ ∃ (x_1 : (enC q).σ), True ∧ true = true ∧ (encV_a q) ∧ XV.sl 0 1 0 ((eo0 q.g x.i).length + (1 : Nat)) = XV.sl 0 1 0 (eo1 q.g q.n).length ∧ (↑(eo0 q.g x.i).length : Int) = (↑(eo0 q.g q.n).length : Int) ∧ (↑(eo0 q.g x.i).length : Int) = (↑(eo0 q.g q.n).length : Int) ∧ (encV_b ∧ (eo0 q.g x.i).length + (1 : Nat) = (eo1 q.g q.n).length ∧ ∀ (j : Nat), j < (eo0 q.g x.i).length + (1 : Nat) → [X8 (bif j.blt (eo0 q.g x.i).length then (eo0 q.g x.i).getD j 0 else (45 : Int))] = [X8 ((eo1 q.g q.n).getD j 0)]) ∧ True) ∧ (decide ((↑(eo0 q.g x.i).length : Int) > (0 : Int)) = false → ∃ (x_1 : (enC q).σ), True ∧ true = true ∧ (encV_a q) ∧ XV.sl 0 1 0 (eo0 q.g x.i).length = XV.sl 0 1 0 (eo1 q.g q.n).length ∧ (↑(eo0 q.g x.i).length : Int) = (↑(eo0 q.g q.n).length : Int) ∧ (↑(eo0 q.g x.i).length : Int) = (↑(eo0 q.g q.n).length : Int) ∧ (encV_b ∧ (eo0 q.g x.i).length = (eo1 q.g q.n).length ∧ ∀ (j : Nat), j < (eo0 q.g x.i).length → [X8 ((eo0 q.g x.i).getD j 0)] = [X8 ((eo1 q.g q.n).getD j 0)]) ∧ True)) ∧ ∀ (x : IL), True → (∃ (x : (enI2 q).σ), (OK2 q (↑(eo0 q.g q.n).length : Int) x ∧ encG q.g q.n (↑(eo0 q.g q.n).length : Int) x.f x.n x.s = encR q.g q.n) ∧ true = true ∧ (encV_a q) ∧ XV.sl 0 1 0 (eo1 q.g q.n).length = XV.sl 0 1 0 x.s.o.length ∧ (↑(eo0 q.g q.n).length : Int) = x.s.h ∧ (↑(eo0 q.g q.n).length : Int) = (↑(eo0 q.g q.n).length : Int) ∧ (128 : Int) = x.n ∧ (0 : Int) = x.s.d ∧ (72 : Int) = x.s.b ∧ (encV_b ∧ (eo1 q.g q.n).length = x.s.o.length ∧ ∀ (j : Nat), j < (eo1 q.g q.n).length → [X8 ((eo1 q.g q.n).getD j 0)] = [X8 (x.s.o.getD j 0)]) ∧ True) ∧ ∀ (x : OS), OK2 q (↑(eo0 q.g q.n).length : Int) x ∧ encG q.g q.n (↑(eo0 q.g q.n).length : Int) x.f x.n x.s = encR q.g q.n → (decide (x.s.h < (↑q.n : Int)) = true → (decide ((↑x.s.o.length : Int) > (63 : Int)) = true → ⟨#[]⟩ = txtO (encR q.g q.n).fst ∧ (2 : Int) = (encR q.g q.n).snd ∧ True) ∧ (decide ((↑x.s.o.length : Int) > (63 : Int)) = false → ∃ (p : { α := OS, J := enI4 q : InvP }.α), (∃ (x_1 : ({ α := OS, J := enI4 q : InvP }.J p).σ), x_1.i.le q.n ∧ true = true ∧ (encV_a q) ∧ XV.sl 0 1 0 x.s.o.length = XV.sl 0 1 0 p.s.o.length ∧ x.s.h = p.s.h ∧ (↑(eo0 q.g q.n).length : Int) = (↑(eo0 q.g q.n).length : Int) ∧ x.n = p.n ∧ x.s.d = p.s.d ∧ x.s.b = p.s.b ∧ (1114112 : Int) = mnr q.g p.n x_1.i ∧ (encV_a q) ∧ (↑q.n : Int) = (↑q.n : Int) ∧ (0 : Int) = (↑x_1.i : Int) ∧ (encV_b ∧ x.s.o.length = p.s.o.length ∧ ∀ (j : Nat), j < x.s.o.length → [X8 (x.s.o.getD j 0)] = [X8 (p.s.o.getD j 0)]) ∧ True) ∧ ∀ (x_1 : IL), x_1.i.le q.n → (decide ((↑x_1.i : Int) < (↑q.n : Int)) = true → (0 : Int) ≤ (↑x_1.i : Int) ∧ (↑x_1.i : Int) < (↑q.n : Int) ∧ ((decide (q.g (↑x_1.i : Int).toNat ≥ p.n) && decide (q.g (↑x_1.i : Int).toNat < mnr q.g p.n x_1.i)) = true → in64 ((↑x_1.i : Int) + (1 : Int)) ∧ ∃ (x' : ({ α := OS, J := enI4 q : InvP }.J p).σ), x'.i.le q.n ∧ q.n - x'.i < q.n - x_1.i ∧ true = true ∧ (encV_a q) ∧ XV.sl 0 1 0 p.s.o.length = XV.sl 0 1 0 p.s.o.length ∧ p.s.h = p.s.h ∧ (↑(eo0 q.g q.n).length : Int) = (↑(eo0 q.g q.n).length : Int) ∧ p.n = p.n ∧ p.s.d = p.s.d ∧ p.s.b = p.s.b ∧ q.g (↑x_1.i : Int).toNat = mnr q.g p.n x'.i ∧ (encV_a q) ∧ (↑q.n : Int) = (↑q.n : Int) ∧ (↑x_1.i : Int) + (1 : Int) = (↑x'.i : Int) ∧ (encV_b ∧ p.s.o.length = p.s.o.length ∧ ∀ (j : Nat), j < p.s.o.length → [X8 (p.s.o.getD j 0)] = [X8 (p.s.o.getD j 0)]) ∧ True) ∧ ((decide (q.g (↑x_1.i : Int).toNat ≥ p.n) && decide (q.g (↑x_1.i : Int).toNat < mnr q.g p.n x_1.i)) = false → in64 ((↑x_1.i : Int) + (1 : Int)) ∧ ∃ (x' : ({ α := OS, J := enI4 q : InvP }.J p).σ), x'.i.le q.n ∧ q.n - x'.i < q.n - x_1.i ∧ true = true ∧ (encV_a q) ∧ XV.sl 0 1 0 p.s.o.length = XV.sl 0 1 0 p.s.o.length ∧ p.s.h = p.s.h ∧ (↑(eo0 q.g q.n).length : Int) = (↑(eo0 q.g q.n).length : Int) ∧ p.n = p.n ∧ p.s.d = p.s.d ∧ p.s.b = p.s.b ∧ mnr q.g p.n x_1.i = mnr q.g p.n x'.i ∧ (encV_a q) ∧ (↑q.n : Int) = (↑q.n : Int) ∧ (↑x_1.i : Int) + (1 : Int) = (↑x'.i : Int) ∧ (encV_b ∧ p.s.o.length = p.s.o.length ∧ ∀ (j : Nat), j < p.s.o.length → [X8 (p.s.o.getD j 0)] = [X8 (p.s.o.getD j 0)]) ∧ True)) ∧ (decide ((↑x_1.i : Int) < (↑q.n : Int)) = false → in64 (IntKind.i32.wrap (mnr q.g p.n x_1.i - p.n)) ∧ in64 (p.s.h + (1 : Int)) ∧ in64 (IntKind.i32.wrap (mnr q.g p.n x_1.i - p.n) * (p.s.h + (1 : Int))) ∧ in64 (p.s.d + IntKind.i32.wrap (mnr q.g p.n x_1.i - p.n) * (p.s.h + (1 : Int))) ∧ ∃ (p_1 : { α := OS, J := enI6 q : InvP }.α), (∃ (x : ({ α := OS, J := enI6 q : InvP }.J p_1).σ), x.i.le q.n ∧ true = true ∧ (encV_a q) ∧ XV.sl 0 1 0 p.s.o.length = XV.sl 0 1 0 (fo1 q p_1 x.i).o.length ∧ p.s.h = (fo1 q p_1 x.i).h ∧ (↑(eo0 q.g q.n).length : Int) = (↑(eo0 q.g q.n).length : Int) ∧ mnr q.g p.n x_1.i = mnr q.g p_1.n q.n ∧ p.s.d + IntKind.i32.wrap (mnr q.g p.n x_1.i - p.n) * (p.s.h + (1 : Int)) = (fo1 q p_1 x.i).d ∧ p.s.b = (fo1 q p_1 x.i).b ∧ (encV_a q) ∧ (↑q.n : Int) = (↑q.n : Int) ∧ (0 : Int) = (↑x.i : Int) ∧ (encV_b ∧ p.s.o.length = (fo1 q p_1 x.i).o.length ∧ ∀ (j : Nat), j < p.s.o.length → [X8 (p.s.o.getD j 0)] = [X8 ((fo1 q p_1 x.i).o.getD j 0)]) ∧ True) ∧ ∀ (x_2 : IL), x_2.i.le q.n → (decide ((↑x_2.i : Int) < (↑q.n : Int)) = true → (0 : Int) ≤ (↑x_2.i : Int) ∧ (↑x_2.i : Int) < (↑q.n : Int) ∧ (decide (q.g (↑x_2.i : Int).toNat < mnr q.g p_1.n q.n) = true → in64 ((fo1 q p_1 x_2.i).d + (1 : Int)) ∧ ((q.g (↑x_2.i : Int).toNat != mnr q.g p_1.n q.n) = true → in64 ((↑x_2.i : Int) + (1 : Int)) ∧ ∃ (x' : ({ α := OS, J := enI6 q : InvP }.J p_1).σ), x'.i.le q.n ∧ q.n - x'.i < q.n - x_2.i ∧ true = true ∧ (encV_a q) ∧ XV.sl 0 1 0 (fo1 q p_1 x_2.i).o.length = XV.sl 0 1 0 (fo1 q p_1 x'.i).o.length ∧ (fo1 q p_1 x_2.i).h = (fo1 q p_1 x'.i).h ∧ (↑(eo0 q.g q.n).length : Int) = (↑(eo0 q.g q.n).length : Int) ∧ mnr q.g p_1.n q.n = mnr q.g p_1.n q.n ∧ (fo1 q p_1 x_2.i).d + (1 : Int) = (fo1 q p_1 x'.i).d ∧ (fo1 q p_1 x_2.i).b = (fo1 q p_1 x'.i).b ∧ (encV_a q) ∧ (↑q.n : Int) = (↑q.n : Int) ∧ (↑x_2.i : Int) + (1 : Int) = (↑x'.i : Int) ∧ (encV_b ∧ (fo1 q p_1 x_2.i).o.length = (fo1 q p_1 x'.i).o.length ∧ ∀ (j : Nat), j < (fo1 q p_1 x_2.i).o.length → [X8 ((fo1 q p_1 x_2.i).o.getD j 0)] = [X8 ((fo1 q p_1 x'.i).o.getD j 0)]) ∧ True) ∧ ((q.g (↑x_2.i : Int).toNat != mnr q.g p_1.n q.n) = false → (fo1 q p_1 x_2.i).o.length = (fo1 q p_1 x_2.i).o.length ∧ (∀ (j : Nat), j < (fo1 q p_1 x_2.i).o.length → [X8 ((fo1 q p_1 x_2.i).o.getD j 0)] = [X8 (Option.rec 0 (fun (val : Int) => val) (fo1 q p_1 x_2.i).o[j]?)]) ∧ (0 : Int) ≤ (fo1 q p_1 x_2.i).d + (1 : Int) ∧ (fo1 q p_1 x_2.i).d + (1 : Int) < (1000000000000000000 : Int) ∧ (-1000 : Int) ≤ (fo1 q p_1 x_2.i).b ∧ (fo1 q p_1 x_2.i).b ≤ (1000 : Int) ∧ (fo1 q p_1 x_2.i).o.length ≤ (1000000 : Nat) ∧ in64 ((fo1 q p_1 x_2.i).h + (1 : Int)) ∧ (0 : Int) ≤ (fo1 q p_1 x_2.i).d + (1 : Int) ∧ (fo1 q p_1 x_2.i).d + (1 : Int) ≤ (35000000000000000 : Int) ∧ (1 : Int) ≤ (fo1 q p_1 x_2.i).h + (1 : Int) ∧ in64 ((fo1 q p_1 x_2.i).h + (1 : Int)) ∧ in64 ((↑x_2.i : Int) + (1 : Int)) ∧ ∃ (x' : ({ α := OS, J := enI6 q : InvP }.J p_1).σ), x'.i.le q.n ∧ q.n - x'.i < q.n - x_2.i ∧ true = true ∧ (encV_a q) ∧ XV.sl 0 1 0 ((fo1 q p_1 x_2.i).o.length + (num ((fo1 q p_1 x_2.i).d + (1 : Int)) (fo1 q p_1 x_2.i).b).length) = XV.sl 0 1 0 (fo1 q p_1 x'.i).o.length ∧ (fo1 q p_1 x_2.i).h + (1 : Int) = (fo1 q p_1 x'.i).h ∧ (↑(eo0 q.g q.n).length : Int) = (↑(eo0 q.g q.n).length : Int) ∧ mnr q.g p_1.n q.n = mnr q.g p_1.n q.n ∧ (0 : Int) = (fo1 q p_1 x'.i).d ∧ adp ((fo1 q p_1 x_2.i).d + (1 : Int)) ((fo1 q p_1 x_2.i).h + (1 : Int)) ((fo1 q p_1 x_2.i).h == (↑(eo0 q.g q.n).length : Int)) = (fo1 q p_1 x'.i).b ∧ (encV_a q) ∧ (↑q.n : Int) = (↑q.n : Int) ∧ (↑x_2.i : Int) + (1 : Int) = (↑x'.i : Int) ∧ (encV_b ∧ (fo1 q p_1 x_2.i).o.length + (num ((fo1 q p_1 x_2.i).d + (1 : Int)) (fo1 q p_1 x_2.i).b).length = (fo1 q p_1 x'.i).o.length ∧ ∀ (j : Nat), j < (fo1 q p_1 x_2.i).o.length + (num ((fo1 q p_1 x_2.i).d + (1 : Int)) (fo1 q p_1 x_2.i).b).length → [X8 (nmC (fo1 q p_1 x_2.i).o.length (fun (j : Nat) => Option.rec 0 (fun (val : Int) => val) (fo1 q p_1 x_2.i).o[j]?) (num ((fo1 q p_1 x_2.i).d + (1 : Int)) (fo1 q p_1 x_2.i).b) j)] = [X8 ((fo1 q p_1 x'.i).o.getD j 0)]) ∧ True)) ∧ (decide (q.g (↑x_2.i : Int).toNat < mnr q.g p_1.n q.n) = false → ((q.g (↑x_2.i : Int).toNat != mnr q.g p_1.n q.n) = true → in64 ((↑x_2.i : Int) + (1 : Int)) ∧ ∃ (x' : ({ α := OS, J := enI6 q : InvP }.J p_1).σ), x'.i.le q.n ∧ q.n - x'.i < q.n - x_2.i ∧ true = true ∧ (encV_a q) ∧ XV.sl 0 1 0 (fo1 q p_1 x_2.i).o.length = XV.sl 0 1 0 (fo1 q p_1 x'.i).o.length ∧ (fo1 q p_1 x_2.i).h = (fo1 q p_1 x'.i).h ∧ (↑(eo0 q.g q.n).length : Int) = (↑(eo0 q.g q.n).length : Int) ∧ mnr q.g p_1.n q.n = mnr q.g p_1.n q.n ∧ (fo1 q p_1 x_2.i).d = (fo1 q p_1 x'.i).d ∧ (fo1 q p_1 x_2.i).b = (fo1 q p_1 x'.i).b ∧ (encV_a q) ∧ (↑q.n : Int) = (↑q.n : Int) ∧ (↑x_2.i : Int) + (1 : Int) = (↑x'.i : Int) ∧ (encV_b ∧ (fo1 q p_1 x_2.i).o.length = (fo1 q p_1 x'.i).o.length ∧ ∀ (j : Nat), j < (fo1 q p_1 x_2.i).o.length → [X8 ((fo1 q p_1 x_2.i).o.getD j 0)] = [X8 ((fo1 q p_1 x'.i).o.getD j 0)]) ∧ True) ∧ ((q.g (↑x_2.i : Int).toNat != mnr q.g p_1.n q.n) = false → (fo1 q p_1 x_2.i).o.length = (fo1 q p_1 x_2.i).o.length ∧ (∀ (j : Nat), j < (fo1 q p_1 x_2.i).o.length → [X8 ((fo1 q p_1 x_2.i).o.getD j 0)] = [X8 (Option.rec 0 (fun (val : Int) => val) (fo1 q p_1 x_2.i).o[j]?)]) ∧ (0 : Int) ≤ (fo1 q p_1 x_2.i).d ∧ (fo1 q p_1 x_2.i).d < (1000000000000000000 : Int) ∧ (-1000 : Int) ≤ (fo1 q p_1 x_2.i).b ∧ (fo1 q p_1 x_2.i).b ≤ (1000 : Int) ∧ (fo1 q p_1 x_2.i).o.length ≤ (1000000 : Nat) ∧ in64 ((fo1 q p_1 x_2.i).h + (1 : Int)) ∧ (0 : Int) ≤ (fo1 q p_1 x_2.i).d ∧ (fo1 q p_1 x_2.i).d ≤ (35000000000000000 : Int) ∧ (1 : Int) ≤ (fo1 q p_1 x_2.i).h + (1 : Int) ∧ in64 ((fo1 q p_1 x_2.i).h + (1 : Int)) ∧ in64 ((↑x_2.i : Int) + (1 : Int)) ∧ ∃ (x' : ({ α := OS, J := enI6 q : InvP }.J p_1).σ), x'.i.le q.n ∧ q.n - x'.i < q.n - x_2.i ∧ true = true ∧ (encV_a q) ∧ XV.sl 0 1 0 ((fo1 q p_1 x_2.i).o.length + (num (fo1 q p_1 x_2.i).d (fo1 q p_1 x_2.i).b).length) = XV.sl 0 1 0 (fo1 q p_1 x'.i).o.length ∧ (fo1 q p_1 x_2.i).h + (1 : Int) = (fo1 q p_1 x'.i).h ∧ (↑(eo0 q.g q.n).length : Int) = (↑(eo0 q.g q.n).length : Int) ∧ mnr q.g p_1.n q.n = mnr q.g p_1.n q.n ∧ (0 : Int) = (fo1 q p_1 x'.i).d ∧ adp (fo1 q p_1 x_2.i).d ((fo1 q p_1 x_2.i).h + (1 : Int)) ((fo1 q p_1 x_2.i).h == (↑(eo0 q.g q.n).length : Int)) = (fo1 q p_1 x'.i).b ∧ (encV_a q) ∧ (↑q.n : Int) = (↑q.n : Int) ∧ (↑x_2.i : Int) + (1 : Int) = (↑x'.i : Int) ∧ (encV_b ∧ (fo1 q p_1 x_2.i).o.length + (num (fo1 q p_1 x_2.i).d (fo1 q p_1 x_2.i).b).length = (fo1 q p_1 x'.i).o.length ∧ ∀ (j : Nat), j < (fo1 q p_1 x_2.i).o.length + (num (fo1 q p_1 x_2.i).d (fo1 q p_1 x_2.i).b).length → [X8 (nmC (fo1 q p_1 x_2.i).o.length (fun (j : Nat) => Option.rec 0 (fun (val : Int) => val) (fo1 q p_1 x_2.i).o[j]?) (num (fo1 q p_1 x_2.i).d (fo1 q p_1 x_2.i).b) j)] = [X8 ((fo1 q p_1 x'.i).o.getD j 0)]) ∧ True))) ∧ (decide ((↑x_2.i : Int) < (↑q.n : Int)) = false → in64 ((fo1 q p_1 x_2.i).d + (1 : Int)) ∧ ∃ (x' : (enI2 q).σ), (OK2 q (↑(eo0 q.g q.n).length : Int) x' ∧ encG q.g q.n (↑(eo0 q.g q.n).length : Int) x'.f x'.n x'.s = encR q.g q.n) ∧ x'.f < x.f ∧ true = true ∧ (encV_a q) ∧ XV.sl 0 1 0 (fo1 q p_1 x_2.i).o.length = XV.sl 0 1 0 x'.s.o.length ∧ (fo1 q p_1 x_2.i).h = x'.s.h ∧ (↑(eo0 q.g q.n).length : Int) = (↑(eo0 q.g q.n).length : Int) ∧ IntKind.i32.wrap (mnr q.g p_1.n q.n + (1 : Int)) = x'.n ∧ (fo1 q p_1 x_2.i).d + (1 : Int) = x'.s.d ∧ (fo1 q p_1 x_2.i).b = x'.s.b ∧ (encV_b ∧ (fo1 q p_1 x_2.i).o.length = x'.s.o.length ∧ ∀ (j : Nat), j < (fo1 q p_1 x_2.i).o.length → [X8 ((fo1 q p_1 x_2.i).o.getD j 0)] = [X8 (x'.s.o.getD j 0)]) ∧ True)))) ∧ (decide (x.s.h < (↑q.n : Int)) = false → (decide ((↑x.s.o.length : Int) > (63 : Int)) = true → ⟨#[]⟩ = txtO (encR q.g q.n).fst ∧ (2 : Int) = (encR q.g q.n).snd ∧ True) ∧ (decide ((↑x.s.o.length : Int) > (63 : Int)) = false → (0 : Nat) + x.s.o.length ≤ x.s.o.length ∧ (∀ (j : Nat), j < x.s.o.length → [X8 (x.s.o.getD ((0 : Nat) + j) 0)] = [X8 (↑{ toBitVec := BitVec.ofNat 8 (x.s.o.getD ((0 : Nat) + j) 0).toNat : UInt8 }.toNat : Int)]) ∧ (txtOf x.s.o.length fun (j : Nat) => { toBitVec := BitVec.ofNat 8 (x.s.o.getD ((0 : Nat) + j) 0).toNat : UInt8 }) = txtO (encR q.g q.n).fst ∧ (0 : Int) = (encR q.g q.n).snd ∧ True)))
theorem encV_eq (q : Sq Int) : encV q = (funC cxe Tryz.f57 (mkSc (enE q) (bodyOf Tryz.f57)) [rnX q] (.tup [XT (txtO (encR q.g q.n).1), XI (encR q.g q.n).2])) := by kernel_rfl
theorem num_ok : ITok Tryz.prog 75 (itS 5 1 numC) := sv_ok cxn_ok Tryz.func75 rfl (by decide) fun n f rest cs m g hC hc => by
 unfold numC at hC
 split at hC
 ·rename_i q b
  simp only [Option.some.injEq, Prod.mk.injEq] at hC
  obtain ⟨rfl, rfl, rfl⟩ := hC
  exact ⟨by kernel_rfl, rfl, fun j => [X8 (int8 (xget (f j) 0))], hc _ (by simp), exvS (numV_eq n (fun j => int8 (xget (f j) 0)) q b) (num_v n _ q b (hc _ (by simp)) (hc _ (by simp)) (hc _ (by simp)) (hc _ (by simp)) (hc _ (by simp)))⟩
 ·cases hC
theorem cxe_ok : cxe.ok Tryz.prog := (cx0_ok.addL num_ok).addC adp_ok
theorem w32 {n : Int} (h0 : -2147483648 ≤ n) (h1 : n ≤ 2147483647) : IntKind.i32.wrap n = n := by
 simp [IntKind.wrap, IntKind.bits, IntKind.signed]; omega
theorem dgt_rng (d : Int) (h0 : 0 ≤ d) (h1 : d < 36) : 48 ≤ dgt d ∧ dgt d < 128 := by
 unfold dgt
 split <;> omega
theorem nmG_rng (b : Int) : ∀ (f : Nat) (q k : Int), 0 ≤ q → ∀ x ∈ nmG b f q k, 48 ≤ x ∧ x < 128
 | 0, q, k, _, x, hx => by simp [nmG] at hx
 | f + 1, q, k, h0, x, hx => by
  have ht := thr_rng k b
  by_cases h : q < thr k b
  ·rw [nmG, if_pos h] at hx
   obtain rfl := List.mem_singleton.1 hx
   exact dgt_rng q h0 (by omega)
  ·rw [nmG_no h] at hx
   rcases List.mem_cons.1 hx with rfl | hx
   ·have r1 : 0 ≤ (q - thr k b) % (36 - thr k b) := Int.emod_nonneg _ (by omega)
    have r2 : (q - thr k b) % (36 - thr k b) < 36 - thr k b := Int.emod_lt_of_pos _ (by omega)
    exact dgt_rng _ (by omega) (by omega)
   ·exact nmG_rng b f _ _ (Int.ediv_nonneg (by omega) (by omega)) x hx
theorem num_rng (q b : Int) (h0 : 0 ≤ q) : ∀ x ∈ num q b, 48 ≤ x ∧ x < 128 := nmG_rng b 19 q 36 h0
theorem mnr_prop (g : Nat → Int) (n : Int) (hn : n ≤ 1114112) : ∀ i, n ≤ mnr g n i ∧ mnr g n i ≤ 1114112 ∧ (∀ j, j < i → g j < n ∨ mnr g n i ≤ g j) ∧ (mnr g n i = 1114112 ∨ ∃ j, j < i ∧ g j = mnr g n i)
 | 0 => ⟨hn, Int.le_refl _, fun j hj => by omega, .inl rfl⟩
 | i + 1 => by
  obtain ⟨h1, h2, h3, h4⟩ := mnr_prop g n hn i
  rw [mnr]
  split
  ·rename_i h
   refine ⟨h.1, by omega, fun j hj => ?_, .inr ⟨i, by omega, rfl⟩⟩
   by_cases e : j = i
   ·subst e; right; omega
   ·rcases h3 j (by omega) with k | k
    ·exact .inl k
    ·right; omega
  ·rename_i h
   refine ⟨h1, h2, fun j hj => ?_, ?_⟩
   ·by_cases e : j = i
    ·subst e
     by_cases k : g j < n
     ·exact .inl k
     ·right; omega
    ·exact h3 j (by omega)
   ·rcases h4 with k | ⟨j, k1, k2⟩
    ·exact .inl k
    ·exact .inr ⟨j, by omega, k2⟩
def ceq (g : Nat → Int) (m : Int) : Nat → Int
 | 0 => 0
 | i + 1 => if g i = m then ceq g m i + 1 else ceq g m i
theorem ceq_rng (g : Nat → Int) (m : Int) : ∀ i : Nat, 0 ≤ ceq g m i ∧ ceq g m i ≤ i
 | 0 => ⟨Int.le_refl _, Int.le_refl _⟩
 | i + 1 => by
  have := ceq_rng g m i
  rw [ceq]
  split <;> omega
theorem ceq_pos (g : Nat → Int) (m : Int) : ∀ i j : Nat, j < i → g j = m → 1 ≤ ceq g m i
 | 0, j, hj, _ => by omega
 | i + 1, j, hj, h => by
  have := ceq_rng g m i
  rw [ceq]
  split
  ·omega
  ·rename_i hne
   refine ceq_pos g m i j ?_ h
   by_cases e : j = i
   ·subst e; exact absurd h hne
   ·omega
theorem clt_rng (g : Nat → Int) (n : Int) : ∀ i : Nat, 0 ≤ clt g n i ∧ clt g n i ≤ i
 | 0 => ⟨Int.le_refl _, Int.le_refl _⟩
 | i + 1 => by
  have := clt_rng g n i
  rw [clt]
  split <;> omega
theorem clt_ex (g : Nat → Int) (n : Int) : ∀ i : Nat, clt g n i < i → ∃ j, j < i ∧ n ≤ g j
 | 0, h => by simp [clt] at h
 | i + 1, h => by
  rw [clt] at h
  split at h
  ·obtain ⟨j, h1, h2⟩ := clt_ex g n i (by omega)
   exact ⟨j, by omega, h2⟩
  ·exact ⟨i, by omega, by omega⟩
theorem clt_round (g : Nat → Int) (n m : Int) (hm : n ≤ m) : ∀ i : Nat, (∀ j, j < i → g j < n ∨ m ≤ g j) → clt g (m + 1) i = clt g n i + ceq g m i
 | 0, _ => rfl
 | i + 1, h => by
  have ih := clt_round g n m hm i fun j hj => h j (by omega)
  have hi := h i (by omega)
  rw [clt, clt, ceq, ih]
  split <;> split <;> split <;> omega
theorem eo0_len (g : Nat → Int) : ∀ i : Nat, ((eo0 g i).length : Int) = clt g 128 i
 | 0 => rfl
 | i + 1 => by
  have := eo0_len g i
  rw [eo0, clt]
  split
  ·rw [List.length_append]; show (((eo0 g i).length + 1 : Nat) : Int) = _; omega
  ·omega
theorem eo0_ok (g : Nat → Int) : ∀ i : Nat, (∀ j, j < i → 0 ≤ g j) → oOK (eo0 g i)
 | 0, _ => fun x hx => by simp [eo0] at hx
 | i + 1, h => by
  have ih := eo0_ok g i fun j hj => h j (by omega)
  rw [eo0]
  split
  ·rename_i h1
   intro x hx
   rcases List.mem_append.1 hx with k | k
   ·exact ih x k
   ·obtain rfl := List.mem_singleton.1 k
    exact ⟨h i (by omega), h1⟩
  ·exact ih
theorem stp_eq (h0 m : Int) (s : ES) (r : Int) (h : r = m) : stp h0 m s r = ⟨s.h + 1, 0, adp s.d (s.h + 1) (s.h == h0), s.o ++ num s.d s.b⟩ := by rw [stp, if_pos h]
theorem stp_lt (h0 m : Int) (s : ES) (r : Int) (h : r < m) : stp h0 m s r = { s with d := s.d + 1 } := by rw [stp, if_neg (by omega), if_pos h]
theorem stp_gt (h0 m : Int) (s : ES) (r : Int) (h : m < r) : stp h0 m s r = s := by rw [stp, if_neg (by omega), if_neg (by omega)]
structure FO (g : Nat → Int) (h0 m : Int) (s : ES) (i : Nat) : Prop where
 h : (fol g h0 m s i).h = s.h + ceq g m i
 d0 : 0 ≤ (fol g h0 m s i).d
 d1 : (fol g h0 m s i).d ≤ s.d + i
 b0 : 0 ≤ (fol g h0 m s i).b
 b1 : (fol g h0 m s i).b ≤ 400
 o : oOK (fol g h0 m s i).o
 l : (fol g h0 m s i).o.length ≤ s.o.length + 19 * i
theorem fol_prop (g : Nat → Int) (h0 m : Int) (s : ES) (hd : 0 ≤ s.d) (hh : 0 ≤ s.h) (hb0 : 0 ≤ s.b) (hb1 : s.b ≤ 400) (ho : oOK s.o) : ∀ i : Nat, s.d + i ≤ 35000000000000000 → FO g h0 m s i
 | 0, _ => ⟨by show s.h = s.h + 0; omega, hd, by show s.d ≤ s.d + 0; omega, hb0, hb1, ho, by show s.o.length ≤ _; omega⟩
 | i + 1, hl => by
  obtain ⟨a1, a2, a3, a4, a5, a6, a7⟩ := fol_prop g h0 m s hd hh hb0 hb1 ho i (by omega)
  have hc := ceq_rng g m i
  have e : fol g h0 m s (i + 1) = stp h0 m (fol g h0 m s i) (g i) := rfl
  rcases Int.lt_trichotomy (g i) m with h | h | h
  ·have e2 : ceq g m (i + 1) = ceq g m i := by rw [ceq, if_neg (by omega)]
   rw [stp_lt _ _ _ _ h] at e
   exact ⟨by rw [e, e2]; exact a1, by rw [e]; show 0 ≤ _ + 1; omega, by rw [e]; show (fol g h0 m s i).d + 1 ≤ _; omega, by rw [e]; exact a4, by rw [e]; exact a5, by rw [e]; exact a6, by rw [e]; show (fol g h0 m s i).o.length ≤ _; omega⟩
  ·have e2 : ceq g m (i + 1) = ceq g m i + 1 := by rw [ceq, if_pos h]
   rw [stp_eq _ _ _ _ h] at e
   have hb := adp_rng (fol g h0 m s i).d ((fol g h0 m s i).h + 1) ((fol g h0 m s i).h == h0) a2 (by omega) (by omega)
   have hn := num_len (fol g h0 m s i).d (fol g h0 m s i).b
   refine ⟨by rw [e, e2]; show (fol g h0 m s i).h + 1 = _; omega, by rw [e]; exact Int.le_refl _, by rw [e]; show (0 : Int) ≤ _; omega, by rw [e]; exact hb.1, by rw [e]; exact hb.2, ?_, ?_⟩
   ·rw [e]
    intro x hx
    rcases List.mem_append.1 hx with k | k
    ·exact a6 x k
    ·have := num_rng _ _ a2 x k
     omega
   ·rw [e]
    show ((fol g h0 m s i).o ++ num (fol g h0 m s i).d (fol g h0 m s i).b).length ≤ _
    rw [List.length_append]; omega
  ·have e2 : ceq g m (i + 1) = ceq g m i := by rw [ceq, if_neg (by omega)]
   rw [stp_gt _ _ _ _ h] at e
   exact ⟨by rw [e, e2]; exact a1, by rw [e]; exact a2, by rw [e]; omega, by rw [e]; exact a4, by rw [e]; exact a5, by rw [e]; exact a6, by rw [e]; omega⟩
theorem o_byte {o : List Int} (h : oOK o) (j : Nat) : ([X8 (o.getD (0 + j) 0)] : List XV) = [X8 ((UInt8.ofNat (o.getD (0 + j) 0).toNat).toNat : Int)] := by
 have : 0 ≤ o.getD (0 + j) 0 ∧ o.getD (0 + j) 0 < 128 := by
  rw [List.getD_eq_getElem?_getD]
  cases hx : o[0 + j]? with
  | none => exact ⟨Int.le_refl _, by decide⟩
  | some x => exact h x (List.mem_of_getElem? hx)
 rw [UInt8.toNat_ofNat']
 congr 4
 omega
theorem row_snoc (o : List Int) (d : Int) (j : Nat) (hj : j < o.length + 1) : ([X8 (bif j.blt o.length then o.getD j 0 else d)] : List XV) = [X8 ((o ++ [d]).getD j 0)] := by
 rw [bltN, List.getD_eq_getElem?_getD, List.getD_eq_getElem?_getD]
 by_cases e : j < o.length
 ·rw [decide_eq_true e, cond_true, List.getElem?_append_left e]
 ·rw [decide_eq_false e, cond_false, show j = o.length by omega]
  simp
theorem getD_rec (o : List Int) (j : Nat) : o.getD j 0 = Option.rec (motive := fun _ => Int) 0 (fun v => v) o[j]? := by
 rw [List.getD_eq_getElem?_getD]
 cases o[j]? <;> rfl
theorem nmC_rec (o c : List Int) (j : Nat) : nmC o.length (fun j => Option.rec (motive := fun _ => Int) 0 (fun v => v) o[j]?) c j = nmC o.length (fun j => o.getD j 0) c j := by
 congr 1
 funext j
 exact (getD_rec o j).symm
theorem nmC_app (o c : List Int) (j : Nat) : nmC o.length (fun j => o.getD j 0) c j = (o ++ c).getD j 0 := by
 unfold nmC
 dsimp only
 rw [List.getD_eq_getElem?_getD, List.getD_eq_getElem?_getD, List.getD_eq_getElem?_getD]
 split
 ·rename_i h; rw [List.getElem?_append_left h]
 ·rename_i h; rw [List.getElem?_append_right (by omega)]
theorem encG_stop {g : Nat → Int} {len : Nat} {h0 : Int} {f : Nat} {n : Int} {s : ES} (h : s.o.length > 63) : encG g len h0 f n s = ([], 2) := by
 cases f with
 | zero => rw [encG, if_pos h]
 | succ f => rw [encG, if_pos h]
theorem encG_end {g : Nat → Int} {len : Nat} {h0 : Int} {f : Nat} {n : Int} {s : ES} (h : ¬ s.o.length > 63) (h2 : ¬ s.h < len) : encG g len h0 f n s = (s.o, 0) := by
 cases f with
 | zero => rw [encG, if_neg h]
 | succ f => rw [encG, if_neg h, if_neg h2]
theorem encG_go {g : Nat → Int} {len : Nat} {h0 : Int} {f : Nat} {n : Int} {s : ES} (h : ¬ s.o.length > 63) (h2 : s.h < len) : encG g len h0 (f + 1) n s = encG g len h0 f (mnr g n len + 1) { rnd g len h0 n s with d := (rnd g len h0 n s).d + 1 } := by
 rw [encG, if_neg h, if_pos h2]
theorem eo1_len (g : Nat → Int) (n : Nat) : (eo1 g n).length ≤ (eo0 g n).length + 1 := by
 unfold eo1
 split
 ·simp
 ·omega
theorem eo1_ok (g : Nat → Int) (n : Nat) (h : oOK (eo0 g n)) : oOK (eo1 g n) := by
 unfold eo1
 split
 ·intro x hx
  rcases List.mem_append.1 hx with k | k
  ·exact h x k
  ·obtain rfl := List.mem_singleton.1 k
   exact ⟨by decide, by decide⟩
 ·exact h
theorem enc_v (q : Sq Int) (hn : q.n ≤ 2000) (hg : ∀ i, i < q.n → 0 ≤ q.g i ∧ q.g i ≤ 1114111) : encV q := by
 have hE0 : ∀ i, i ≤ q.n → (eo0 q.g i).length ≤ i := fun i hi => by
  have h1 := eo0_len q.g i
  have h2 := clt_rng q.g 128 i
  omega
 unfold encV encV_b encV_a
 refine ⟨⟨⟨0⟩, Nat.zero_le _, rfl, rfl, rfl, rfl, rfl, rfl, ⟨⟨rfl, rfl, rfl⟩, rfl, fun j hj => by omega⟩, trivial⟩, ?_⟩
 rintro ⟨i⟩ hi
 have hi : i ≤ q.n := hi
 refine ⟨fun h => ?_, fun h => ?_⟩
 ·have h : (i : Int) < q.n := of_decide_eq_true h
  have hil := hE0 i hi
  obtain ⟨g0, g1⟩ := hg i (by omega)
  dsimp only
  refine ⟨by omega, h, fun h1 => ?_, fun h1 => ?_⟩
  ·have h1 : q.g i < 128 := of_decide_eq_true h1
   have e : eo0 q.g (i + 1) = eo0 q.g i ++ [q.g i] := by rw [eo0, if_pos h1]
   have el : (eo0 q.g (i + 1)).length = (eo0 q.g i).length + 1 := by rw [e, List.length_append]; rfl
   refine ⟨rfl, by omega, by omega, by unfold in64; omega, ⟨i + 1⟩, by show i + 1 ≤ q.n; omega, by show q.n - (i + 1) < q.n - i; omega, rfl, rfl, by rw [el], rfl, rfl, rfl, ⟨⟨rfl, rfl, rfl⟩, by rw [el], fun j hj => ?_⟩, trivial⟩
   rw [e, show IntKind.u8.wrap (q.g (i : Int).toNat) = q.g i from wrap8_in g0 (show q.g i ≤ 255 by omega)]
   exact row_snoc _ _ j hj
  ·have h1 : ¬ q.g i < 128 := of_decide_eq_false h1
   have e : eo0 q.g (i + 1) = eo0 q.g i := by rw [eo0, if_neg h1]
   exact ⟨by unfold in64; omega, ⟨i + 1⟩, by show i + 1 ≤ q.n; omega, by show q.n - (i + 1) < q.n - i; omega, rfl, rfl, by rw [e], rfl, rfl, rfl, ⟨⟨rfl, rfl, rfl⟩, by rw [e], fun j hj => by rw [e]⟩, trivial⟩
 have h : ¬ (i : Int) < q.n := of_decide_eq_false h
 obtain rfl : i = q.n := by omega
 have hl0 := hE0 q.n (Nat.le_refl _)
 dsimp only
 refine ⟨⟨fun h1 => ?_, fun h1 => ?_⟩, fun _ _ => ?_⟩
 ·have h1 : ((eo0 q.g q.n).length : Int) > 0 := of_decide_eq_true h1
  have e : eo1 q.g q.n = eo0 q.g q.n ++ [45] := by rw [eo1, if_pos (by omega)]
  have el : (eo1 q.g q.n).length = (eo0 q.g q.n).length + 1 := by rw [e, List.length_append]; rfl
  refine ⟨rfl, by omega, by omega, ⟨0⟩, trivial, rfl, rfl, by rw [el], rfl, rfl, ⟨⟨rfl, rfl, rfl⟩, by rw [el], fun j hj => ?_⟩, trivial⟩
  rw [e]
  exact row_snoc _ _ j hj
 ·have h1 : ¬ ((eo0 q.g q.n).length : Int) > 0 := of_decide_eq_false h1
  have e : eo1 q.g q.n = eo0 q.g q.n := by rw [eo1, if_neg (by omega)]
  exact ⟨⟨0⟩, trivial, rfl, rfl, by rw [e], rfl, rfl, ⟨⟨rfl, rfl, rfl⟩, by rw [e], fun j hj => by rw [e]⟩, trivial⟩
 have hok0 := eo0_ok q.g q.n fun j hj => (hg j hj).1
 have hcl := eo0_len q.g q.n
 have hcr := clt_rng q.g 128 q.n
 have hl1 := eo1_len q.g q.n
 refine ⟨⟨⟨128, ⟨(eo0 q.g q.n).length, 0, 72, eo1 q.g q.n⟩, q.n⟩, ⟨⟨⟨Int.le_refl _, by show (128 : Int) ≤ 1114112; decide⟩, by show ((eo0 q.g q.n).length : Int) = _; omega, ⟨by omega, Int.le_refl _⟩, ⟨Int.le_refl _, by show (0 : Int) ≤ ((q.n : Int) - (q.n : Int)) * 2300000000; omega⟩, ⟨by show (0 : Int) ≤ 72; decide, by show (72 : Int) ≤ 400; decide⟩, eo1_ok _ _ hok0, by show (eo1 q.g q.n).length ≤ 50000; omega, ⟨by show (q.n : Int) - ((eo0 q.g q.n).length : Int) ≤ q.n; omega, Nat.le_refl _⟩⟩, rfl⟩, rfl, rfl, rfl, rfl, rfl, rfl, rfl, rfl, ⟨⟨rfl, rfl, rfl⟩, rfl, fun j hj => rfl⟩, trivial⟩, ?_⟩
 rintro ⟨n, s, f⟩ ⟨hK, hG⟩
 obtain ⟨⟨n0, n1⟩, kh, ⟨h00, h01⟩, ⟨d0, d1⟩, ⟨b0, b1⟩, ko, kl, ⟨f0, f1⟩⟩ := hK
 dsimp only at n0 n1 kh h00 h01 d0 d1 b0 b1 ko kl f0 f1 hG
 have hcn := clt_rng q.g n q.n
 dsimp only
 refine ⟨fun h2' => ?_, fun h2 => ?_⟩
 ·have h2 : s.h < q.n := of_decide_eq_true h2'
  refine ⟨fun h3 => ?_, fun h3 => ?_⟩
  ·have h3 : (s.o.length : Int) > 63 := of_decide_eq_true h3
   rw [encG_stop (by omega)] at hG
   rw [← hG]
   exact ⟨rfl, rfl, trivial⟩
  have h3 : ¬ s.o.length > 63 := by have := of_decide_eq_false h3; omega
  refine ⟨⟨n, s, f⟩, ⟨⟨0⟩, Nat.zero_le _, rfl, rfl, rfl, rfl, rfl, rfl, rfl, rfl, rfl, rfl, rfl, rfl, ⟨⟨rfl, rfl, rfl⟩, rfl, fun j hj => rfl⟩, trivial⟩, ?_⟩
  rintro ⟨i⟩ hi
  have hi : i ≤ q.n := hi
  dsimp only
  refine ⟨fun h => ?_, fun h => ?_⟩
  ·have h : (i : Int) < q.n := of_decide_eq_true h
   refine ⟨by omega, h, fun h1 => ?_, fun h1 => ?_⟩
   ·simp only [Bool.and_eq_true, decide_eq_true_eq, Int.toNat_natCast] at h1
    have e : mnr q.g n (i + 1) = q.g i := by rw [mnr, if_pos ⟨h1.1, h1.2⟩]
    exact ⟨by unfold in64; omega, ⟨i + 1⟩, by show i + 1 ≤ q.n; omega, by show q.n - (i + 1) < q.n - i; omega, rfl, rfl, rfl, rfl, rfl, rfl, rfl, rfl, by show q.g (i : Int).toNat = mnr q.g n (i + 1); rw [e]; rfl, rfl, rfl, rfl, ⟨⟨rfl, rfl, rfl⟩, rfl, fun j hj => rfl⟩, trivial⟩
   ·have e : mnr q.g n (i + 1) = mnr q.g n i := by
     rw [mnr, if_neg]
     intro hx
     simp only [Bool.and_eq_false_iff, decide_eq_false_iff_not, Int.toNat_natCast] at h1
     omega
    exact ⟨by unfold in64; omega, ⟨i + 1⟩, by show i + 1 ≤ q.n; omega, by show q.n - (i + 1) < q.n - i; omega, rfl, rfl, rfl, rfl, rfl, rfl, rfl, rfl, by show mnr q.g n i = mnr q.g n (i + 1); rw [e], rfl, rfl, rfl, ⟨⟨rfl, rfl, rfl⟩, rfl, fun j hj => rfl⟩, trivial⟩
  have h : ¬ (i : Int) < q.n := of_decide_eq_false h
  obtain rfl : i = q.n := by omega
  obtain ⟨m0, m1, m2, m3⟩ := mnr_prop q.g n n1 q.n
  obtain ⟨jx, hj1, hj2⟩ := clt_ex q.g n q.n (by omega)
  have hmn : mnr q.g n q.n ≤ q.g jx := by
   rcases m2 jx hj1 with k | k
   ·omega
   ·exact k
  have hgx := (hg jx hj1).2
  obtain ⟨jm, hm1, hm2⟩ : ∃ j, j < q.n ∧ q.g j = mnr q.g n q.n := by
   rcases m3 with k | k
   ·omega
   ·exact k
  have hce := ceq_pos q.g (mnr q.g n q.n) q.n jm hm1 hm2
  have hcr := clt_round q.g n (mnr q.g n q.n) m0 q.n m2
  have hceq := ceq_rng q.g (mnr q.g n q.n) q.n
  have hcm := clt_rng q.g (mnr q.g n q.n + 1) q.n
  rw [w32 (by omega) (by omega)]
  have hp0 : 0 ≤ (mnr q.g n q.n - n) * (s.h + 1) := Int.mul_nonneg (by omega) (by omega)
  have hp1 : (mnr q.g n q.n - n) * (s.h + 1) ≤ 1114112 * 2001 := Int.mul_le_mul (by omega) (by omega) (by omega) (by decide)
  have hfn : ((q.n : Int) - f) * 2300000000 ≤ 2000 * 2300000000 := Int.mul_le_mul (by omega) (Int.le_refl _) (by decide) (by decide)
  have hF : ∀ i, i ≤ q.n → FO q.g (eo0 q.g q.n).length (mnr q.g n q.n) { s with d := s.d + (mnr q.g n q.n - n) * (s.h + 1) } i := fun i hi =>
   fol_prop q.g (eo0 q.g q.n).length (mnr q.g n q.n) { s with d := s.d + (mnr q.g n q.n - n) * (s.h + 1) } (by show 0 ≤ s.d + _; omega) (by show 0 ≤ s.h; omega) b0 b1 ko i (by show s.d + _ + _ ≤ _; omega)
  refine ⟨by unfold in64; omega, by unfold in64; omega, by unfold in64; omega, by unfold in64; omega, ⟨n, s, f⟩, ⟨⟨0⟩, Nat.zero_le _, rfl, rfl, rfl, rfl, rfl, rfl, rfl, rfl, rfl, rfl, rfl, ⟨⟨rfl, rfl, rfl⟩, rfl, fun j hj => rfl⟩, trivial⟩, ?_⟩
  rintro ⟨i⟩ hi
  have hi : i ≤ q.n := hi
  have hFi := hF i hi
  have efo : fol q.g (eo0 q.g q.n).length (mnr q.g n q.n) { s with d := s.d + (mnr q.g n q.n - n) * (s.h + 1) } i = fo1 q ⟨n, s, f⟩ i := rfl
  obtain ⟨p1, p2, p3, p4, p5, p6, p7⟩ := hFi
  rw [efo] at p1 p2 p3 p4 p5 p6 p7
  dsimp only at p1 p3 p7
  have hci := ceq_rng q.g (mnr q.g n q.n) i
  have est : fo1 q ⟨n, s, f⟩ (i + 1) = stp (eo0 q.g q.n).length (mnr q.g n q.n) (fo1 q ⟨n, s, f⟩ i) (q.g i) := rfl
  dsimp only
  refine ⟨fun h => ?_, fun h => ?_⟩
  ·have h : (i : Int) < q.n := of_decide_eq_true h
   refine ⟨by omega, h, fun h1 => ?_, fun h1 => ?_⟩
   ·have h1 : q.g i < mnr q.g n q.n := of_decide_eq_true h1
    rw [stp_lt _ _ _ _ h1] at est
    refine ⟨by unfold in64; omega, fun h4 => ?_, fun h4 => ?_⟩
    ·exact ⟨by unfold in64; omega, ⟨i + 1⟩, by show i + 1 ≤ q.n; omega, by show q.n - (i + 1) < q.n - i; omega, rfl, rfl, by rw [est], by rw [est], rfl, rfl, by rw [est], by rw [est], rfl, rfl, rfl, ⟨⟨rfl, rfl, rfl⟩, by rw [est], fun j hj => by rw [est]⟩, trivial⟩
    ·have h4 : q.g i = mnr q.g n q.n := by simpa using h4
     omega
   ·have h1 : ¬ q.g i < mnr q.g n q.n := of_decide_eq_false h1
    refine ⟨fun h4 => ?_, fun h4 => ?_⟩
    ·have h4 : q.g i ≠ mnr q.g n q.n := by simpa using h4
     rw [stp_gt _ _ _ _ (by omega)] at est
     exact ⟨by unfold in64; omega, ⟨i + 1⟩, by show i + 1 ≤ q.n; omega, by show q.n - (i + 1) < q.n - i; omega, rfl, rfl, by rw [est], by rw [est], rfl, rfl, by rw [est], by rw [est], rfl, rfl, rfl, ⟨⟨rfl, rfl, rfl⟩, by rw [est], fun j hj => by rw [est]⟩, trivial⟩
    ·have h4 : q.g i = mnr q.g n q.n := by simpa using h4
     rw [stp_eq _ _ _ _ h4] at est
     refine ⟨rfl, fun j hj => congrArg (fun z => [X8 z]) (getD_rec _ j), p2, by omega, by omega, by omega, by omega, by unfold in64; omega, p2, by omega, by omega, by unfold in64; omega, by unfold in64; omega, ⟨i + 1⟩, by show i + 1 ≤ q.n; omega, by show q.n - (i + 1) < q.n - i; omega, rfl, rfl, by rw [est, List.length_append], by rw [est], rfl, rfl, by rw [est], by rw [est], rfl, rfl, rfl, ⟨⟨rfl, rfl, rfl⟩, by rw [est, List.length_append], fun j hj => ?_⟩, trivial⟩
     rw [est]
     exact congrArg (fun z => [X8 z]) ((nmC_rec _ _ j).trans (nmC_app _ _ j))
  ·have h : ¬ (i : Int) < q.n := of_decide_eq_false h
   obtain rfl : i = q.n := by omega
   have ernd : rnd q.g q.n (eo0 q.g q.n).length n s = fo1 q ⟨n, s, f⟩ q.n := rfl
   cases f with
   | zero => omega
   | succ f =>
    rw [encG_go (by assumption) h2, ernd] at hG
    rw [w32 (by omega) (by omega)]
    refine ⟨by unfold in64; omega, ⟨mnr q.g n q.n + 1, { fo1 q ⟨n, s, f + 1⟩ q.n with d := (fo1 q ⟨n, s, f + 1⟩ q.n).d + 1 }, f⟩, ⟨⟨⟨?_, ?_⟩, ?_, ⟨?_, ?_⟩, ⟨?_, ?_⟩, ⟨p4, p5⟩, p6, ?_, ⟨?_, ?_⟩⟩, hG⟩, by show f < f + 1; omega, rfl, rfl, rfl, rfl, rfl, rfl, rfl, rfl, ⟨⟨rfl, rfl, rfl⟩, rfl, fun j hj => rfl⟩, trivial⟩
    ·show 128 ≤ _ + 1; omega
    ·show mnr q.g n q.n + 1 ≤ 1114112; omega
    ·show (fo1 q ⟨n, s, f + 1⟩ q.n).h = clt q.g (mnr q.g n q.n + 1) q.n; omega
    ·omega
    ·show _ ≤ (fo1 q ⟨n, s, f + 1⟩ q.n).h; omega
    ·show 0 ≤ (fo1 q ⟨n, s, f + 1⟩ q.n).d + 1; omega
    ·show (fo1 q ⟨n, s, f + 1⟩ q.n).d + 1 ≤ ((q.n : Int) - (f : Int)) * 2300000000; omega
    ·show (fo1 q ⟨n, s, f + 1⟩ q.n).o.length ≤ 50000; omega
    ·show (q.n : Int) - (fo1 q ⟨n, s, f + 1⟩ q.n).h ≤ (f : Int); omega
    ·show f ≤ q.n; omega
 ·have h2 : ¬ s.h < q.n := of_decide_eq_false h2
  refine ⟨fun h3 => ?_, fun h3 => ?_⟩
  ·have h3 : (s.o.length : Int) > 63 := of_decide_eq_true h3
   rw [encG_stop (by omega)] at hG
   rw [← hG]
   exact ⟨rfl, rfl, trivial⟩
  ·have h3 : ¬ (s.o.length : Int) > 63 := of_decide_eq_false h3
   rw [encG_end (by omega) h2] at hG
   rw [← hG]
   exact ⟨by omega, fun j hj => o_byte ko j, rfl, rfl, trivial⟩
def dRn : Dc (Sq Int) := dSl 1 (fun l => rune1 (xget l 0)) (fun i => [X32 i]) 0
def encC : CT := C1 dRn (fun q => [q.n ≤ 2000, ∀ i, i < q.n → 0 ≤ q.g i ∧ q.g i ≤ 1114111]) fun q => .tup [XT (txtO (encR q.g q.n).1), XI (encR q.g q.n).2]
theorem enc_ok : CTok Tryz.prog 57 encC := C1_ok cxe_ok Tryz.func57 rfl (by decide) dSl_ok (by kernel_rfl) (fun _ => rfl) fun q hc => exv (encV_eq q) (enc_v q (hc _ (by simp)) (hc _ (by simp)))
end Go.Proofs.YtkjcoehblekpdaaGreatDoorAv
namespace Go.Proofs.YtkjcoehblekpdaaGreatDoorAv
open Go Go.RowKit
def dnG (b : Int) : List UInt8 → Int → Int → Int → Option (List UInt8 × Int)
 | [], _, _, _ => none
 | c :: l, i, w, k => if vlu c.toNat = 36 ∨ i > 71303104 ∨ w > 71303104 then none else if vlu c.toNat < thr k b then some (l, i + vlu c.toNat * w) else dnG b l (i + vlu c.toNat * w) (w * (36 - thr k b)) (k + 36)
def badR (n : Int) : Prop := n > 1114111 ∨ (55296 ≤ n ∧ n ≤ 57343)
instance (n : Int) : Decidable (badR n) := inferInstanceAs (Decidable (_ ∨ _))
def dcG : Nat → List UInt8 → Int → Int → Int → List Int → Option (List Int)
 | _, [], _, _, _, o => some o
 | 0, _ :: _, _, _, _, _ => none
 | f + 1, c :: l, n, i, b, o => match dnG b (c :: l) i 1 36 with
  | none => none
  | some (l', j) => if badR (n + j / (o.length + 1)) then none else dcG f l' (n + j / (o.length + 1)) (j % (o.length + 1) + 1) (adp (j - i) (o.length + 1) (i == 0)) (o.take (j % (o.length + 1)).toNat ++ (n + j / (o.length + 1)) :: o.drop (j % (o.length + 1)).toNat)
def dcN (f : Nat) (n i : Int) (o : List Int) : Option (List UInt8 × Int) → Option (List Int)
 | none => none
 | some (l', j) => if badR (n + j / (o.length + 1)) then none else dcG f l' (n + j / (o.length + 1)) (j % (o.length + 1) + 1) (adp (j - i) (o.length + 1) (i == 0)) (o.take (j % (o.length + 1)).toNat ++ (n + j / (o.length + 1)) :: o.drop (j % (o.length + 1)).toNat)
theorem dcG_cons (f : Nat) (c : UInt8) (l : List UInt8) (n i b : Int) (o : List Int) : dcG (f + 1) (c :: l) n i b o = dcN f n i o (dnG b (c :: l) i 1 36) := by
 rw [dcG]
 cases dnG b (c :: l) i 1 36 <;> rfl
def decK (s : ByteArray) : Option (List Int) → List Int × Int
 | none => ([], 3)
 | some o => if (encR (fun j => o.getD j 0) o.length).2 ≠ 0 ∨ eqfB (txtO (encR (fun j => o.getD j 0) o.length).1) s = false then ([], 3) else (o, 0)
def lst (s : ByteArray) (p : Nat) : List UInt8 := s.data.toList.drop p
def preL (s : ByteArray) (m : Nat) : List Int := (s.data.toList.take m).map fun c => (c.toNat : Int)
def decR (s : ByteArray) : List Int × Int :=
 if s.size > 63 then ([], 3)
 else if ∃ j, j < (imax (lastB s 45) 0).toNat ∧ sbyte s (j : Nat) ≥ 128 then ([], 3)
 else decK s (dcG (s.size + 1) (lst s (lastB s 45 + 1).toNat) 128 0 72 (preL s (imax (lastB s 45) 0).toNat))
def rsT (s : ByteArray) (p : Nat) : ByteArray := s.extract p s.size
def cxd : Cx := { cx0 with C := [(57, encC), (97, vluC), (98, thrC), (76, adpC), (96, lastC), (99, eqfC)], K := true }
structure DS where
 p : Nat
 n : Int
 i : Int
 b : Int
 o : List Int
 f : Nat
structure DQ where
 p : Nat
 i : Int
 w : Int
 k : Int
def rowR (o : List Int) : XRow := .vec 21 true o.length 1 fun j => [X32 (o.getD j 0)]
def asc (s : ByteArray) (p : Nat) : Prop := ∀ j : Nat, j < p → sbyte s j < 128
def deI0 (s : ByteArray) : Inv where
 σ := IL
 S := fun x => ⟨[(0, XT s), (4, .sl 0 1 0 x.i), (5, XI (lastB s 45)), (25, XI (imax (lastB s 45) 0)), (26, XI x.i)], [(0, .vec 21 true x.i 1 fun j => [X32 (sbyte s j)])], 1, false, []⟩
 inv := fun x => (x.i : Int) ≤ imax (lastB s 45) 0 ∧ asc s x.i
 μ := fun x => s.size - x.i
structure DOK (s : ByteArray) (x : DS) : Prop where
 p : x.p ≤ s.size
 f : s.size < x.p + x.f
 l : x.o.length ≤ x.p
 i : 0 ≤ x.i ∧ x.i ≤ x.o.length
 n : 128 ≤ x.n ∧ x.n ≤ 1114111
 b : 0 ≤ x.b ∧ x.b ≤ 400
 a : asc s x.p
 o : ∀ y ∈ x.o, 0 ≤ y ∧ y ≤ 1114111
def deI2 (s : ByteArray) : Inv where
 σ := DS
 S := fun x => ⟨[(0, XT s), (4, .sl 0 1 0 x.o.length), (7, XI x.n), (8, XI x.i), (9, XI x.b), (10, XT (rsT s x.p))], [(0, rowR x.o)], 1, false, []⟩
 inv := fun x => DOK s x ∧ decK s (dcG x.f (lst s x.p) x.n x.i x.b x.o) = decR s
 μ := fun x => s.size - x.p
structure TOK (s : ByteArray) (y : DS) (x : DQ) : Prop where
 p : y.p ≤ x.p ∧ x.p ≤ s.size
 i : y.i ≤ x.i ∧ x.i ≤ 2566911744
 w : 1 ≤ x.w ∧ x.w ≤ 2495608640
 k : 36 ≤ x.k ∧ x.k + 36 * y.p ≤ 36 + 36 * x.p
 a : asc s x.p
def deI4 (s : ByteArray) (y : DS) : Inv where
 σ := DQ
 S := fun x => ⟨[(0, XT s), (4, .sl 0 1 0 y.o.length), (7, XI y.n), (8, XI x.i), (9, XI y.b), (10, XT (rsT s x.p)), (11, XI y.i), (12, XI x.w), (13, XI x.k)], [(0, rowR y.o)], 1, false, []⟩
 inv := fun x => TOK s y x ∧ decK s (dcN (y.f - 1) y.n y.i y.o (dnG y.b (lst s x.p) x.i x.w x.k)) = decR s
 μ := fun x => s.size - x.p
def deE (s : ByteArray) : Env := { loops := [(0, deI0 s), (2, deI2 s)], loopsP := [(4, ⟨DS, deI4 s⟩)], own := [(4, [(4, 21, 1)])], frz := [(37, [4])] }
def fzL (o : List Int) : XV := .fz o.length 1 fun j => [X32 (o.getD j 0)]
def decV_a (s : ByteArray) (x_1 : DQ) :=
 (x_1.i + vlu (sbyte (rsT s x_1.p) 0) * x_1.w)
noncomputable def decV_b (x : DS) :=
 (encR (fun (i : Nat) => Option.rec 0 (fun (val : Int) => val) x.o[i]?) x.o.length)
def decV_c (s : ByteArray) (p : { α := DS, J := deI4 s : InvP }.α) (x_1 : DQ) :=
 ((decV_a s x_1).tdiv ((↑p.o.length : Int) + (1 : Int)))
def decV_d (s : ByteArray) (p : { α := DS, J := deI4 s : InvP }.α) (x_1 : DQ) :=
 ((↑p.o.length : Int) - (decV_a s x_1).tmod ((↑p.o.length : Int) + (1 : Int)))
def decV_e (s : ByteArray) (p : { α := DS, J := deI4 s : InvP }.α) (x_1 : DQ) :=
 ((decV_a s x_1).tmod ((↑p.o.length : Int) + (1 : Int)) - (0 : Int))
def decV (s : ByteArray) : Prop :=
 (decide ((↑s.size : Int) > (63 : Int)) = true → (decR s).fst.length = (0 : Nat) ∧ (3 : Int) = (decR s).snd ∧ True) ∧ (decide ((↑s.size : Int) > (63 : Int)) = false → s.size ≤ (1000000 : Nat) ∧ (∃ (x : (deI0 s).σ), ((↑x.i : Int) ≤ imax (lastB s 45) 0 ∧ asc s x.i) ∧ true = true ∧ s = s ∧ XV.sl 0 1 0 0 = XV.sl 0 1 0 x.i ∧ lastB s 45 = lastB s 45 ∧ imax (lastB s 45) 0 = imax (lastB s 45) 0 ∧ (0 : Int) = (↑x.i : Int) ∧ (((21 : Nat) = (21 : TypeId) ∧ true = true ∧ (1 : Nat) = (1 : Nat)) ∧ (0 : Nat) = x.i ∧ ∀ (j : Nat), j < (0 : Nat) → [] = [X32 (sbyte s (↑j : Int))]) ∧ True) ∧ ∀ (x : IL), (↑x.i : Int) ≤ imax (lastB s 45) 0 ∧ asc s x.i → (decide ((↑x.i : Int) < imax (lastB s 45) 0) = true → (0 : Int) ≤ (↑x.i : Int) ∧ (↑x.i : Int) < (↑s.size : Int) ∧ (decide (sbyte s (↑x.i : Int) ≥ (128 : Int)) = true → (decR s).fst.length = (0 : Nat) ∧ (3 : Int) = (decR s).snd ∧ True) ∧ (decide (sbyte s (↑x.i : Int) ≥ (128 : Int)) = false → (0 : Int) ≤ (↑x.i : Int) ∧ (↑x.i : Int) < (↑s.size : Int) ∧ x.i.le x.i ∧ (x.i + (1 : Nat)) * (4 : Nat) ≤ (140737488355328 : Nat) ∧ x.i + (1 : Nat) ≤ (140737488355328 : Nat) ∧ in64 ((↑x.i : Int) + (1 : Int)) ∧ ∃ (x' : (deI0 s).σ), ((↑x'.i : Int) ≤ imax (lastB s 45) 0 ∧ asc s x'.i) ∧ s.size - x'.i < s.size - x.i ∧ true = true ∧ s = s ∧ XV.sl 0 1 0 (x.i + (1 : Nat)) = XV.sl 0 1 0 x'.i ∧ lastB s 45 = lastB s 45 ∧ imax (lastB s 45) 0 = imax (lastB s 45) 0 ∧ (↑x.i : Int) + (1 : Int) = (↑x'.i : Int) ∧ (((21 : TypeId) = (21 : TypeId) ∧ true = true ∧ (1 : Nat) = (1 : Nat)) ∧ x.i + (1 : Nat) = x'.i ∧ ∀ (j : Nat), j < x.i + (1 : Nat) → [Bool.rec (X32 (IntKind.i32.wrap (sbyte s (↑x.i : Int)))) (X32 (sbyte s (↑j : Int))) (j.blt x.i)] = [X32 (sbyte s (↑j : Int))]) ∧ True)) ∧ (decide ((↑x.i : Int) < imax (lastB s 45) 0) = false → in64 (lastB s 45 + (1 : Int)) ∧ (0 : Int) ≤ lastB s 45 + (1 : Int) ∧ lastB s 45 + (1 : Int) ≤ (↑s.size : Int) ∧ (↑s.size : Int) ≤ (↑s.size : Int) ∧ (∃ (x_1 : (deI2 s).σ), (DOK s x_1 ∧ decK s (dcG x_1.f (lst s x_1.p) x_1.n x_1.i x_1.b x_1.o) = decR s) ∧ true = true ∧ s = s ∧ XV.sl 0 1 0 x.i = XV.sl 0 1 0 x_1.o.length ∧ (128 : Int) = x_1.n ∧ (0 : Int) = x_1.i ∧ (72 : Int) = x_1.b ∧ s.extract (lastB s 45 + (1 : Int)).toNat (↑s.size : Int).toNat = rsT s x_1.p ∧ (((21 : TypeId) = (21 : TypeId) ∧ true = true ∧ (1 : Nat) = (1 : Nat)) ∧ x.i = x_1.o.length ∧ ∀ (j : Nat), j < x.i → [X32 (sbyte s (↑j : Int))] = [X32 (x_1.o.getD j 0)]) ∧ True) ∧ ∀ (x : DS), DOK s x ∧ decK s (dcG x.f (lst s x.p) x.n x.i x.b x.o) = decR s → ((!decide (rsT s x.p = ⟨#[]⟩)) = true → ∃ (p : { α := DS, J := deI4 s : InvP }.α), (∃ (x_1 : ({ α := DS, J := deI4 s : InvP }.J p).σ), (TOK s p x_1 ∧ decK s (dcN (p.f - (1 : Nat)) p.n p.i p.o (dnG p.b (lst s x_1.p) x_1.i x_1.w x_1.k)) = decR s) ∧ true = true ∧ s = s ∧ XV.sl 0 1 0 x.o.length = XV.sl 0 1 0 p.o.length ∧ x.n = p.n ∧ x.i = x_1.i ∧ x.b = p.b ∧ rsT s x.p = rsT s x_1.p ∧ x.i = p.i ∧ (1 : Int) = x_1.w ∧ (36 : Int) = x_1.k ∧ (((21 : TypeId) = (21 : TypeId) ∧ true = true ∧ (1 : Nat) = (1 : Nat)) ∧ x.o.length = p.o.length ∧ ∀ (j : Nat), j < x.o.length → [X32 (x.o.getD j 0)] = [X32 (p.o.getD j 0)]) ∧ True) ∧ ∀ (x_1 : DQ), TOK s p x_1 ∧ decK s (dcN (p.f - (1 : Nat)) p.n p.i p.o (dnG p.b (lst s x_1.p) x_1.i x_1.w x_1.k)) = decR s → (decide (rsT s x_1.p = ⟨#[]⟩) = true → (decR s).fst.length = (0 : Nat) ∧ (3 : Int) = (decR s).snd ∧ True) ∧ (decide (rsT s x_1.p = ⟨#[]⟩) = false → (0 : Int) ≤ (0 : Int) ∧ (0 : Int) < (↑(rsT s x_1.p).size : Int) ∧ (0 : Int) ≤ (1 : Int) ∧ (1 : Int) ≤ (↑(rsT s x_1.p).size : Int) ∧ (↑(rsT s x_1.p).size : Int) ≤ (↑(rsT s x_1.p).size : Int) ∧ ((vlu (sbyte (rsT s x_1.p) 0) == (36 : Int) || decide (x_1.i > (71303104 : Int)) || decide (x_1.w > (71303104 : Int))) = true → (decR s).fst.length = (0 : Nat) ∧ (3 : Int) = (decR s).snd ∧ True) ∧ ((vlu (sbyte (rsT s x_1.p) 0) == (36 : Int) || decide (x_1.i > (71303104 : Int)) || decide (x_1.w > (71303104 : Int))) = false → in64 (vlu (sbyte (rsT s x_1.p) 0) * x_1.w) ∧ in64 (decV_a s x_1) ∧ in64 (x_1.k - p.b) ∧ (decide (vlu (sbyte (rsT s x_1.p) 0) < thr x_1.k p.b) = true → in64 ((↑p.o.length : Int) + (1 : Int)) ∧ in64 (x_1.i + vlu (sbyte (rsT s x_1.p) 0) * x_1.w - p.i) ∧ (0 : Int) ≤ x_1.i + vlu (sbyte (rsT s x_1.p) 0) * x_1.w - p.i ∧ x_1.i + vlu (sbyte (rsT s x_1.p) 0) * x_1.w - p.i ≤ (35000000000000000 : Int) ∧ (1 : Int) ≤ (↑p.o.length : Int) + (1 : Int) ∧ (↑p.o.length : Int) + (1 : Int) ≠ (0 : Int) ∧ in64 (p.n + IntKind.i64.wrap (decV_c s p x_1)) ∧ (↑p.o.length : Int) + (1 : Int) ≠ (0 : Int) ∧ ((!decide (p.n + IntKind.i64.wrap (decV_c s p x_1) > (1114111 : Int))) = true → (!decide (p.n + IntKind.i64.wrap (decV_c s p x_1) > (1114111 : Int))) = true) ∧ ((!decide (p.n + IntKind.i64.wrap (decV_c s p x_1) > (1114111 : Int))) = true → (!decide (p.n + IntKind.i64.wrap (decV_c s p x_1) > (1114111 : Int))) = true) ∧ ((!decide (p.n + IntKind.i64.wrap (decV_c s p x_1) > (1114111 : Int))) = true → (!decide (p.n + IntKind.i64.wrap (decV_c s p x_1) > (1114111 : Int))) = true) ∧ (decide (p.n + IntKind.i64.wrap (decV_c s p x_1) > (1114111 : Int)) = false → (!decide (p.n + IntKind.i64.wrap (decV_c s p x_1) > (1114111 : Int))) = true) ∧ ((decide (p.n + IntKind.i64.wrap (decV_c s p x_1) > (1114111 : Int)) || decide (p.n + IntKind.i64.wrap (decV_c s p x_1) ≥ (55296 : Int)) && decide (p.n + IntKind.i64.wrap (decV_c s p x_1) ≤ (57343 : Int))) = true → (decR s).fst.length = (0 : Nat) ∧ (3 : Int) = (decR s).snd ∧ True) ∧ ((decide (p.n + IntKind.i64.wrap (decV_c s p x_1) > (1114111 : Int)) || decide (p.n + IntKind.i64.wrap (decV_c s p x_1) ≥ (55296 : Int)) && decide (p.n + IntKind.i64.wrap (decV_c s p x_1) ≤ (57343 : Int))) = false → (0 : Int) ≤ (0 : Int) ∧ (0 : Int) ≤ (decV_a s x_1).tmod ((↑p.o.length : Int) + (1 : Int)) ∧ (decV_a s x_1).tmod ((↑p.o.length : Int) + (1 : Int)) ≤ (↑p.o.length : Int) ∧ (0 : Int) ≤ (decV_a s x_1).tmod ((↑p.o.length : Int) + (1 : Int)) ∧ (decV_a s x_1).tmod ((↑p.o.length : Int) + (1 : Int)) ≤ (↑p.o.length : Int) ∧ (↑p.o.length : Int) ≤ (↑p.o.length : Int) ∧ (0 : Nat) + ((decV_a s x_1).tmod ((↑p.o.length : Int) + (1 : Int))).toNat + (decV_d s p x_1).toNat ≤ p.o.length ∧ ((1 : Nat) + (decV_d s p x_1).toNat) * (4 : Nat) ≤ (140737488355328 : Nat) ∧ (1 : Nat) + (decV_d s p x_1).toNat ≤ (140737488355328 : Nat) ∧ (decV_e s p x_1).toNat.le p.o.length ∧ ((decV_e s p x_1).toNat + ((1 : Nat) + (decV_d s p x_1).toNat)) * (4 : Nat) ≤ (140737488355328 : Nat) ∧ (decV_e s p x_1).toNat + ((1 : Nat) + (decV_d s p x_1).toNat) ≤ (140737488355328 : Nat) ∧ in64 ((decV_a s x_1).tmod ((↑p.o.length : Int) + (1 : Int)) + (1 : Int)) ∧ ∃ (x' : (deI2 s).σ), (DOK s x' ∧ decK s (dcG x'.f (lst s x'.p) x'.n x'.i x'.b x'.o) = decR s) ∧ s.size - x'.p < s.size - x.p ∧ true = true ∧ s = s ∧ XV.sl 0 1 0 ((decV_e s p x_1).toNat + ((1 : Nat) + (decV_d s p x_1).toNat)) = XV.sl 0 1 0 x'.o.length ∧ p.n + IntKind.i64.wrap (decV_c s p x_1) = x'.n ∧ (decV_a s x_1).tmod ((↑p.o.length : Int) + (1 : Int)) + (1 : Int) = x'.i ∧ adp (x_1.i + vlu (sbyte (rsT s x_1.p) 0) * x_1.w - p.i) ((↑p.o.length : Int) + (1 : Int)) (p.i == (0 : Int)) = x'.b ∧ (rsT s x_1.p).extract ((1 : Nat)) (↑(rsT s x_1.p).size : Int).toNat = rsT s x'.p ∧ (((21 : TypeId) = (21 : TypeId) ∧ true = true ∧ (1 : Nat) = (1 : Nat)) ∧ (decV_e s p x_1).toNat + ((1 : Nat) + (decV_d s p x_1).toNat) = x'.o.length ∧ ∀ (j : Nat), j < (decV_e s p x_1).toNat + ((1 : Nat) + (decV_d s p x_1).toNat) → [Bool.rec (Bool.rec (X32 (p.o.getD ((0 : Nat) + ((decV_a s x_1).tmod ((↑p.o.length : Int) + (1 : Int))).toNat + (j - (decV_e s p x_1).toNat - (1 : Nat))) 0)) (X32 (IntKind.i32.wrap (p.n + IntKind.i64.wrap (decV_c s p x_1)))) ((j - (decV_e s p x_1).toNat).blt 1)) (X32 (p.o.getD j 0)) (j.blt (decV_e s p x_1).toNat)] = [X32 (x'.o.getD j 0)]) ∧ True)) ∧ (decide (vlu (sbyte (rsT s x_1.p) 0) < thr x_1.k p.b) = false → in64 ((36 : Int) - thr x_1.k p.b) ∧ in64 (x_1.w * ((36 : Int) - thr x_1.k p.b)) ∧ in64 (x_1.k + (36 : Int)) ∧ ∃ (x' : ({ α := DS, J := deI4 s : InvP }.J p).σ), (TOK s p x' ∧ decK s (dcN (p.f - (1 : Nat)) p.n p.i p.o (dnG p.b (lst s x'.p) x'.i x'.w x'.k)) = decR s) ∧ s.size - x'.p < s.size - x_1.p ∧ true = true ∧ s = s ∧ XV.sl 0 1 0 p.o.length = XV.sl 0 1 0 p.o.length ∧ p.n = p.n ∧ x_1.i + vlu (sbyte (rsT s x_1.p) 0) * x_1.w = x'.i ∧ p.b = p.b ∧ (rsT s x_1.p).extract ((1 : Nat)) (↑(rsT s x_1.p).size : Int).toNat = rsT s x'.p ∧ p.i = p.i ∧ x_1.w * ((36 : Int) - thr x_1.k p.b) = x'.w ∧ x_1.k + (36 : Int) = x'.k ∧ (((21 : TypeId) = (21 : TypeId) ∧ true = true ∧ (1 : Nat) = (1 : Nat)) ∧ p.o.length = p.o.length ∧ ∀ (j : Nat), j < p.o.length → [X32 (p.o.getD j 0)] = [X32 (p.o.getD j 0)]) ∧ True)))) ∧ ((!decide (rsT s x.p = ⟨#[]⟩)) = false → x.o.length = x.o.length ∧ (∀ (i : Nat), i < x.o.length → [X32 (x.o.getD i 0)] = [X32 (Option.rec 0 (fun (val : Int) => val) x.o[i]?)]) ∧ x.o.length ≤ (2000 : Nat) ∧ (∀ (i : Nat), i < x.o.length → (0 : Int) ≤ Option.rec 0 (fun (val : Int) => val) x.o[i]? ∧ Option.rec 0 (fun (val : Int) => val) x.o[i]? ≤ (1114111 : Int)) ∧ ((!(decV_b x).snd != (0 : Int)) = true → (txtO (decV_b x).fst).size ≤ (1000000 : Nat)) ∧ ((!(decV_b x).snd != (0 : Int)) = true → ascB (txtO (decV_b x).fst)) ∧ ((!(decV_b x).snd != (0 : Int)) = true → ascB s) ∧ (((decV_b x).snd != (0 : Int) || !eqfB (txtO (decV_b x).fst) s) = true → (decR s).fst.length = (0 : Nat) ∧ (3 : Int) = (decR s).snd ∧ True) ∧ (((decV_b x).snd != (0 : Int) || !eqfB (txtO (decV_b x).fst) s) = false → ((1 : Nat) = (1 : Nat) ∧ x.o.length = (decR s).fst.length ∧ ∀ (j : Nat), j < x.o.length → [X32 (x.o.getD j 0)] = [X32 ((decR s).fst.getD j 0)]) ∧ (0 : Int) = (decR s).snd ∧ True))))
theorem decV_eq (s : ByteArray) : decV s = (funC cxd Tryz.f73 (mkSc (deE s) (bodyOf Tryz.f73)) [XT s] (.tup [fzL (decR s).1, XI (decR s).2])) := by kernel_rfl
theorem OK2.step {q : Sq Int} {h0 : Int} {n : Int} {s : ES} {f : Nat} (hn : q.n ≤ 2000) (hg : ∀ i, i < q.n → 0 ≤ q.g i ∧ q.g i ≤ 1114111) (hK : OK2 q h0 ⟨n, s, f + 1⟩) (h2 : s.h < q.n) (h3 : ¬ s.o.length > 63) :
  OK2 q h0 ⟨mnr q.g n q.n + 1, { rnd q.g q.n h0 n s with d := (rnd q.g q.n h0 n s).d + 1 }, f⟩ ∧ n ≤ mnr q.g n q.n ∧ mnr q.g n q.n ≤ 1114111 ∧ (∀ j, j < q.n → q.g j < n ∨ mnr q.g n q.n ≤ q.g j) := by
 obtain ⟨⟨n0, n1⟩, kh, ⟨h00, h01⟩, ⟨d0, d1⟩, ⟨b0, b1⟩, ko, kl, ⟨f0, f1⟩⟩ := hK
 dsimp only at n0 n1 kh h00 h01 d0 d1 b0 b1 ko kl f0 f1
 have hcn := clt_rng q.g n q.n
 obtain ⟨m0, m1, m2, m3⟩ := mnr_prop q.g n n1 q.n
 obtain ⟨jx, hj1, hj2⟩ := clt_ex q.g n q.n (by omega)
 have hmn : mnr q.g n q.n ≤ q.g jx := by
  rcases m2 jx hj1 with k | k
  ·omega
  ·exact k
 have hgx := (hg jx hj1).2
 obtain ⟨jm, hm1, hm2⟩ : ∃ j, j < q.n ∧ q.g j = mnr q.g n q.n := by
  rcases m3 with k | k
  ·omega
  ·exact k
 have hce := ceq_pos q.g (mnr q.g n q.n) q.n jm hm1 hm2
 have hcr := clt_round q.g n (mnr q.g n q.n) m0 q.n m2
 have hceq := ceq_rng q.g (mnr q.g n q.n) q.n
 have hcm := clt_rng q.g (mnr q.g n q.n + 1) q.n
 have hp0 : 0 ≤ (mnr q.g n q.n - n) * (s.h + 1) := Int.mul_nonneg (by omega) (by omega)
 have hp1 : (mnr q.g n q.n - n) * (s.h + 1) ≤ 1114112 * 2001 := Int.mul_le_mul (by omega) (by omega) (by omega) (by decide)
 have hfn : ((q.n : Int) - (f + 1 : Nat)) * 2300000000 ≤ 2000 * 2300000000 := Int.mul_le_mul (by omega) (Int.le_refl _) (by decide) (by decide)
 obtain ⟨p1, p2, p3, p4, p5, p6, p7⟩ := fol_prop q.g h0 (mnr q.g n q.n) { s with d := s.d + (mnr q.g n q.n - n) * (s.h + 1) } (by show 0 ≤ s.d + _; omega) (by show 0 ≤ s.h; omega) b0 b1 ko q.n (by show s.d + _ + _ ≤ _; omega)
 have ernd : fol q.g h0 (mnr q.g n q.n) { s with d := s.d + (mnr q.g n q.n - n) * (s.h + 1) } q.n = rnd q.g q.n h0 n s := rfl
 rw [ernd] at p1 p2 p3 p4 p5 p6 p7
 dsimp only at p1 p3 p7
 refine ⟨⟨⟨?_, ?_⟩, ?_, ⟨?_, ?_⟩, ⟨?_, ?_⟩, ⟨p4, p5⟩, p6, ?_, ⟨?_, ?_⟩⟩, m0, by omega, m2⟩
 ·show 128 ≤ _ + 1; omega
 ·show mnr q.g n q.n + 1 ≤ 1114112; omega
 ·show (rnd q.g q.n h0 n s).h = clt q.g (mnr q.g n q.n + 1) q.n; omega
 ·omega
 ·show _ ≤ (rnd q.g q.n h0 n s).h; omega
 ·show 0 ≤ (rnd q.g q.n h0 n s).d + 1; omega
 ·show (rnd q.g q.n h0 n s).d + 1 ≤ ((q.n : Int) - (f : Int)) * 2300000000; omega
 ·show (rnd q.g q.n h0 n s).o.length ≤ 50000; omega
 ·show (q.n : Int) - (rnd q.g q.n h0 n s).h ≤ (f : Int); omega
 ·show f ≤ q.n; omega
theorem OK2.start {q : Sq Int} (hn : q.n ≤ 2000) (hg : ∀ i, i < q.n → 0 ≤ q.g i ∧ q.g i ≤ 1114111) : OK2 q (eo0 q.g q.n).length ⟨128, ⟨(eo0 q.g q.n).length, 0, 72, eo1 q.g q.n⟩, q.n⟩ := by
 have hok0 := eo0_ok q.g q.n fun j hj => (hg j hj).1
 have hcl := eo0_len q.g q.n
 have hcr := clt_rng q.g 128 q.n
 have hl1 := eo1_len q.g q.n
 exact ⟨⟨Int.le_refl _, by show (128 : Int) ≤ 1114112; decide⟩, by show ((eo0 q.g q.n).length : Int) = _; omega, ⟨by omega, Int.le_refl _⟩, ⟨Int.le_refl _, by show (0 : Int) ≤ ((q.n : Int) - (q.n : Int)) * 2300000000; omega⟩, ⟨by show (0 : Int) ≤ 72; decide, by show (72 : Int) ≤ 400; decide⟩, eo1_ok _ _ hok0, by show (eo1 q.g q.n).length ≤ 50000; omega, ⟨by show (q.n : Int) - ((eo0 q.g q.n).length : Int) ≤ q.n; omega, Nat.le_refl _⟩⟩
theorem encG_ok {q : Sq Int} {h0 : Int} (hn : q.n ≤ 2000) (hg : ∀ i, i < q.n → 0 ≤ q.g i ∧ q.g i ≤ 1114111) : ∀ (f : Nat) (n : Int) (s : ES), OK2 q h0 ⟨n, s, f⟩ → oOK (encG q.g q.n h0 f n s).1 ∧ (encG q.g q.n h0 f n s).1.length ≤ 63 := by
 intro f
 induction f with
 | zero =>
  intro n s hK
  by_cases h3 : s.o.length > 63
  ·rw [encG_stop h3]; exact ⟨fun x hx => by simp at hx, by simp⟩
  ·have h1 := hK.f.1
   have h2 : ¬ s.h < q.n := by
    have h1 : (q.n : Int) - s.h ≤ (0 : Nat) := h1
    omega
   rw [encG_end h3 h2]; exact ⟨hK.o, by show s.o.length ≤ 63; omega⟩
 | succ f ih =>
  intro n s hK
  by_cases h3 : s.o.length > 63
  ·rw [encG_stop h3]; exact ⟨fun x hx => by simp at hx, by simp⟩
  ·by_cases h2 : s.h < q.n
   ·rw [encG_go h3 h2]
    exact ih _ _ (hK.step hn hg h2 h3).1
   ·rw [encG_end h3 h2]; exact ⟨hK.o, by show s.o.length ≤ 63; omega⟩
theorem encR_ok {q : Sq Int} (hn : q.n ≤ 2000) (hg : ∀ i, i < q.n → 0 ≤ q.g i ∧ q.g i ≤ 1114111) : oOK (encR q.g q.n).1 ∧ (encR q.g q.n).1.length ≤ 63 := encG_ok hn hg _ _ _ (OK2.start hn hg)
theorem txtO_data (o : List Int) : (txtO o).data.toList = (List.range o.length).map fun j => UInt8.ofNat (o.getD (0 + j) 0).toNat := rfl
theorem txtO_list (o : List Int) : (txtO o).data.toList = o.map fun x => UInt8.ofNat x.toNat := by
 rw [txtO_data]
 apply List.ext_getElem?
 intro i
 rw [List.getElem?_map, List.getElem?_map]
 by_cases h : i < o.length
 ·rw [List.getElem?_range h, List.getElem?_eq_getElem h]
  simp only [Option.map_some, Nat.zero_add]
  rw [List.getD_eq_getElem?_getD, List.getElem?_eq_getElem h]
  rfl
 ·rw [List.getElem?_eq_none (by simpa using h), List.getElem?_eq_none (by omega)]
  rfl
theorem txtO_size (o : List Int) : (txtO o).size = o.length := by rw [size_data, txtO_list, List.length_map]
theorem txtO_asc {o : List Int} (h : oOK o) : ascB (txtO o) := by
 intro b hb
 rw [txtO_list] at hb
 obtain ⟨x, hx, rfl⟩ := List.mem_map.1 hb
 have := h x hx
 rw [UInt8.toNat_ofNat']
 omega
theorem lst_nil {s : ByteArray} {p : Nat} (h : s.size ≤ p) : lst s p = [] := List.drop_of_length_le (by rw [size_data] at h; exact h)
theorem lst_cons {s : ByteArray} {p : Nat} (h : p < s.size) : ∃ c : UInt8, lst s p = c :: lst s (p + 1) ∧ (c.toNat : Int) = sbyte s p := by
 rw [size_data] at h
 refine ⟨s.data.toList[p], ?_, ?_⟩
 ·unfold lst; rw [List.drop_eq_getElem_cons h]
 ·unfold sbyte
  rw [Int.toNat_natCast, List.getD_eq_getElem?_getD, List.getElem?_eq_getElem h]
  rfl
theorem rsT_eq (s : ByteArray) (p : Nat) : rsT s p = mk8 (lst s p) := by
 unfold rsT lst mk8
 rw [Lib.extract_eq, List.take_of_length_le (by rw [List.length_drop, size_data]; exact Nat.le_refl _)]
theorem rsT_size (s : ByteArray) (p : Nat) : (rsT s p).size = s.size - p := by
 rw [rsT_eq, mk8_size, lst, List.length_drop, size_data]
theorem rsT_emp (s : ByteArray) (p : Nat) : decide (rsT s p = ⟨#[]⟩) = decide (s.size ≤ p) := by
 rw [emp_iff, rsT_size, decide_eq_decide]
 omega
theorem rsT_byte {s : ByteArray} {p : Nat} (h : p < s.size) : sbyte (rsT s p) 0 = sbyte s p := by
 obtain ⟨c, h1, h2⟩ := lst_cons h
 rw [rsT_eq, h1, ← h2]
 rfl
theorem rsT_next (s : ByteArray) (p : Nat) : (rsT s p).extract 1 (rsT s p).size = rsT s (p + 1) := by
 rw [rsT_eq, rsT_eq, Lib.extract_eq, mk8_data, mk8_size, List.take_of_length_le (by rw [List.length_drop]; exact Nat.le_refl _)]
 show mk8 (List.drop 1 (List.drop p s.data.toList)) = mk8 (List.drop (p + 1) s.data.toList)
 rw [List.drop_drop]
theorem lastB_spec (s : ByteArray) : (lastB s 45 = -1 ∨ (0 ≤ lastB s 45 ∧ lastB s 45 < s.size ∧ sbyte s (lastB s 45) = 45)) := by
 rcases Lib.lastIndexByte_spec s 45 with ⟨h, -⟩ | ⟨i, h1, h2, h3, -⟩
 ·exact .inl h
 ·right
  have h2 : lastB s 45 = i := h2
  rw [h2]
  refine ⟨by omega, by omega, ?_⟩
  rw [← h3]
  unfold sbyte
  rw [size_data] at h1
  rw [Int.toNat_natCast, List.getD_eq_getElem?_getD, List.getElem?_eq_getElem h1]
  have h1' : i < s.data.size := by simpa using h1
  rw [getElem!_pos s.data i h1']
  rfl
theorem vlu_rng (c : Int) : 0 ≤ vlu c ∧ vlu c ≤ 36 := by
 unfold vlu
 split
 ·omega
 ·split
  ·omega
  ·split <;> omega
theorem vlu_asc {c : Int} (h : vlu c ≠ 36) : c < 128 := by
 unfold vlu at h
 split at h
 ·omega
 ·split at h
  ·omega
  ·split at h
   ·omega
   ·exact absurd rfl h
theorem asc_succ {s : ByteArray} {p : Nat} (h : asc s p) (h1 : sbyte s p < 128) : asc s (p + 1) := fun j hj => by
 by_cases e : j = p
 ·rw [e]; exact h1
 ·exact h j (by omega)
theorem preL_len {s : ByteArray} {m : Nat} (h : m ≤ s.size) : (preL s m).length = m := by
 unfold preL
 rw [List.length_map, List.length_take, ← size_data]
 omega
theorem preL_get {s : ByteArray} {m j : Nat} (h : m ≤ s.size) (hj : j < m) : (preL s m).getD j 0 = sbyte s j := by
 unfold preL sbyte
 rw [size_data] at h
 rw [List.getD_eq_getElem?_getD, List.getElem?_map, List.getElem?_take, if_pos hj, Int.toNat_natCast, List.getD_eq_getElem?_getD, List.getElem?_eq_getElem (by omega)]
 rfl
theorem ins_row (o : List Int) (r : Int) (x : Int) (h0 : 0 ≤ r) (h1 : r ≤ o.length) (j : Nat) (hj : j < (r - 0).toNat + (1 + ((o.length : Int) - r).toNat)) :
  ([Bool.rec (Bool.rec (X32 (o.getD (0 + r.toNat + (j - (r - 0).toNat - 1)) 0)) (X32 x) ((j - (r - 0).toNat).blt 1)) (X32 (o.getD j 0)) (j.blt (r - 0).toNat)] : List XV) = [X32 ((o.take r.toNat ++ x :: o.drop r.toNat).getD j 0)] := by
 obtain ⟨n, rfl⟩ : ∃ n : Nat, r = n := ⟨r.toNat, by omega⟩
 simp only [Int.sub_zero, Int.toNat_natCast, Nat.zero_add] at *
 rw [bltN, bltN, List.getD_eq_getElem?_getD, List.getD_eq_getElem?_getD, List.getD_eq_getElem?_getD]
 have hl : (o.take n).length = n := by rw [List.length_take]; omega
 by_cases e : j < n
 ·rw [decide_eq_true e, List.getElem?_append_left (by omega), List.getElem?_take, if_pos e]
 ·rw [decide_eq_false e, List.getElem?_append_right (by omega), hl]
  by_cases e1 : j - n < 1
  ·rw [decide_eq_true e1, show j - n = 0 by omega]; rfl
  ·rw [decide_eq_false e1, show j - n = (j - n - 1) + 1 by omega, List.getElem?_cons_succ, List.getElem?_drop]
   rfl
theorem decR_err {s : ByteArray} (h : decR s = ([], 3)) : (decR s).1.length = 0 ∧ 3 = (decR s).2 ∧ True := by rw [h]; exact ⟨rfl, rfl, trivial⟩
theorem dec_v (s : ByteArray) (hs : s.size ≤ 1000000) : decV s := by
 unfold decV decV_e decV_d decV_c decV_b decV_a
 refine ⟨fun h => ?_, fun h => ?_⟩
 ·have h : (s.size : Int) > 63 := of_decide_eq_true h
  exact decR_err (by rw [decR, if_pos (by omega)])
 have h63 : ¬ s.size > 63 := by have := of_decide_eq_false h; omega
 clear h
 have hat := lastB_spec s
 have hm : imax (lastB s 45) 0 = if 0 > lastB s 45 then 0 else lastB s 45 := rfl
 have hm0 : 0 ≤ imax (lastB s 45) 0 := by rw [hm]; split <;> omega
 refine ⟨hs, ⟨⟨0⟩, ⟨hm0, fun j hj => absurd hj (Nat.not_lt_zero _)⟩, rfl, rfl, rfl, rfl, rfl, rfl, ⟨⟨rfl, rfl, rfl⟩, rfl, fun j hj => absurd hj (Nat.not_lt_zero _)⟩, trivial⟩, ?_⟩
 rintro ⟨i⟩ ⟨hi, ha⟩
 have hi : (i : Int) ≤ imax (lastB s 45) 0 := hi
 have ha : asc s i := ha
 refine ⟨fun h => ?_, fun h => ?_⟩
 ·have h : (i : Int) < imax (lastB s 45) 0 := of_decide_eq_true h
  have hia : (i : Int) < lastB s 45 := by rw [hm] at h; split at h <;> omega
  dsimp only
  refine ⟨by omega, by omega, fun hb => ?_, fun hb => ?_⟩
  ·have hb : sbyte s (i : Int) ≥ 128 := of_decide_eq_true hb
   exact decR_err (by rw [decR, if_neg h63, if_pos ⟨i, by omega, hb⟩])
  ·have hb : ¬ sbyte s (i : Int) ≥ 128 := of_decide_eq_false hb
   have hbr := sb_rng s (i : Int)
   refine ⟨by omega, by omega, Nat.le_refl _, by omega, by omega, by unfold in64; omega, ⟨i + 1⟩, ⟨by show ((i + 1 : Nat) : Int) ≤ _; omega, asc_succ ha (by omega)⟩, by show s.size - (i + 1) < s.size - i; omega, rfl, rfl, rfl, rfl, rfl, rfl, ⟨⟨rfl, rfl, rfl⟩, rfl, fun j hj => ?_⟩, trivial⟩
   rw [w32 (by omega) (by omega), bltN]
   by_cases e : j < i
   ·rw [decide_eq_true e]
   ·rw [decide_eq_false e, show j = i by omega]
 have h : ¬ (i : Int) < imax (lastB s 45) 0 := of_decide_eq_false h
 have him : (imax (lastB s 45) 0).toNat = i := by omega
 have hat1 : -1 ≤ lastB s 45 ∧ lastB s 45 < s.size := by omega
 have hip : i ≤ (lastB s 45 + 1).toNat := by rw [← him, hm]; split <;> omega
 have hap : asc s (lastB s 45 + 1).toNat := fun j hj => by
  by_cases e : j < i
  ·exact ha j e
  ·have : imax (lastB s 45) 0 = lastB s 45 := by rw [hm, if_neg]; omega
   have ej : (j : Int) = lastB s 45 := by omega
   rw [ej]
   rcases hat with k | ⟨_, _, k⟩ <;> omega
 have hpl : (preL s i).length = i := preL_len (by omega)
 have hR : decK s (dcG (s.size + 1) (lst s (lastB s 45 + 1).toNat) 128 0 72 (preL s i)) = decR s := by
  rw [decR, if_neg h63, if_neg, him]
  rintro ⟨j, h1, h2⟩
  have := ha j (by omega)
  omega
 dsimp only
 refine ⟨by unfold in64; omega, by omega, by omega, by omega, ⟨⟨(lastB s 45 + 1).toNat, 128, 0, 72, preL s i, s.size + 1⟩, ⟨⟨by show (lastB s 45 + 1).toNat ≤ s.size; omega, by show s.size < (lastB s 45 + 1).toNat + (s.size + 1); omega, by show (preL s i).length ≤ (lastB s 45 + 1).toNat; omega, ⟨Int.le_refl _, by show (0 : Int) ≤ ((preL s i).length : Int); omega⟩, ⟨Int.le_refl _, by show (128 : Int) ≤ 1114111; decide⟩, ⟨by show (0 : Int) ≤ 72; decide, by show (72 : Int) ≤ 400; decide⟩, hap, fun y hy => ?_⟩, hR⟩, rfl, rfl, by rw [hpl], rfl, rfl, rfl, rfl, ⟨⟨rfl, rfl, rfl⟩, by rw [hpl], fun j hj => by rw [preL_get (by omega) hj]⟩, trivial⟩, ?_⟩
 ·unfold preL at hy
  obtain ⟨c, -, rfl⟩ := List.mem_map.1 hy
  have := UInt8.toNat_lt c
  omega
 clear hR hap hip him h ha hi hpl
 rintro ⟨p, n, i1, b, o, f⟩ ⟨hK, hG⟩
 obtain ⟨k1, k2, k3, ⟨i0, i2⟩, ⟨n0, n1⟩, ⟨b0, b1⟩, ka, ko⟩ := hK
 dsimp only at k1 k2 k3 i0 i2 n0 n1 b0 b1 ka ko hG
 dsimp only
 rw [rsT_emp]
 refine ⟨fun h => ?_, fun h => ?_⟩
 ·have hp : p < s.size := by
   have h : ¬ s.size ≤ p := by simpa using h
   omega
  clear h
  obtain ⟨c0, e0, -⟩ := lst_cons hp
  obtain ⟨f, rfl⟩ : ∃ f', f = f' + 1 := ⟨f - 1, by omega⟩
  rw [e0, dcG_cons, ← e0] at hG
  refine ⟨⟨p, n, i1, b, o, f + 1⟩, ⟨⟨p, i1, 1, 36⟩, ⟨⟨⟨Nat.le_refl _, k1⟩, ⟨Int.le_refl _, by show i1 ≤ 2566911744; omega⟩, ⟨Int.le_refl _, by show (1 : Int) ≤ 2495608640; decide⟩, ⟨Int.le_refl _, by show (36 : Int) + 36 * (p : Int) ≤ 36 + 36 * (p : Int); omega⟩, ka⟩, hG⟩, rfl, rfl, rfl, rfl, rfl, rfl, rfl, rfl, rfl, rfl, ⟨⟨rfl, rfl, rfl⟩, rfl, fun j hj => rfl⟩, trivial⟩, ?_⟩
  clear hG e0
  rintro ⟨p1, i3, w, k⟩ ⟨hT, hG⟩
  obtain ⟨⟨t1, t2⟩, ⟨t3, t4⟩, ⟨t5, t6⟩, ⟨t7, t8⟩, ta⟩ := hT
  dsimp only at t1 t2 t3 t4 t5 t6 t7 t8 ta hG
  rw [show f + 1 - 1 = f from rfl] at hG
  dsimp only
  rw [rsT_emp]
  refine ⟨fun h => ?_, fun h => ?_⟩
  ·have h : s.size ≤ p1 := of_decide_eq_true h
   rw [lst_nil h] at hG
   exact decR_err hG.symm
  have hp1 : p1 < s.size := by have := of_decide_eq_false h; omega
  clear h
  obtain ⟨c, e1, e2⟩ := lst_cons hp1
  rw [rsT_byte hp1, rsT_size]
  have hbr := sb_rng s (p1 : Int)
  have hv := vlu_rng (sbyte s (p1 : Int))
  rw [e1, dnG, e2] at hG
  refine ⟨Int.le_refl _, by omega, by decide, by omega, Int.le_refl _, fun h => ?_, fun h => ?_⟩
  ·rw [if_pos] at hG
   ·exact decR_err hG.symm
   ·simpa [or_assoc] using h
  have hno : ¬ (vlu (sbyte s (p1 : Int)) = 36 ∨ i3 > 71303104 ∨ w > 71303104) := by
   intro hx
   have : (vlu (sbyte s (p1 : Int)) == 36 || decide (i3 > 71303104) || decide (w > 71303104)) = true := by simpa [or_assoc] using hx
   rw [this] at h; cases h
  clear h
  rw [if_neg hno] at hG
  have hv36 : vlu (sbyte s (p1 : Int)) ≠ 36 := fun hx => hno (.inl hx)
  have hca := vlu_asc hv36
  have hm1 : 0 ≤ vlu (sbyte s (p1 : Int)) * w := Int.mul_nonneg hv.1 (by omega)
  have hm2 : vlu (sbyte s (p1 : Int)) * w ≤ 35 * 71303104 := Int.mul_le_mul (by omega) (by omega) (by omega) (by decide)
  have ht := thr_rng k b
  have hap := asc_succ ta hca
  generalize vlu (sbyte s (p1 : Int)) = v at *
  refine ⟨by unfold in64; omega, by unfold in64; omega, by unfold in64; omega, fun h => ?_, fun h => ?_⟩
  ·have h : v < thr k b := of_decide_eq_true h
   rw [if_pos h, dcN] at hG
   generalize hj : i3 + v * w = j at *
   have hj0 : 0 ≤ j := by omega
   have hq1 : 0 ≤ j / ((o.length : Int) + 1) := Int.ediv_nonneg hj0 (by omega)
   have hq2 : j / ((o.length : Int) + 1) ≤ j := Int.ediv_le_self _ hj0
   have hr1 : 0 ≤ j % ((o.length : Int) + 1) := Int.emod_nonneg _ (by omega)
   have hr2 : j % ((o.length : Int) + 1) < (o.length : Int) + 1 := Int.emod_lt_of_pos _ (by omega)
   have hw := wdiv (a := j) (b := (o.length : Int) + 1) hj0 (by omega) (by omega)
   have hmd : j.tmod ((o.length : Int) + 1) = j % ((o.length : Int) + 1) := Int.tmod_eq_emod_of_nonneg hj0
   rw [hw, hmd]
   have hb := adp_rng (j - i1) ((o.length : Int) + 1) (i1 == 0) (by omega) (by omega) (by omega)
   generalize hn' : n + j / ((o.length : Int) + 1) = n' at *
   generalize hr : j % ((o.length : Int) + 1) = r at *
   refine ⟨by unfold in64; omega, by unfold in64; omega, by omega, by omega, by omega, by omega, by unfold in64; omega, by omega, fun h => h, fun h => h, fun h => h, fun h => by rw [h]; rfl, fun h => ?_, fun h => ?_⟩
   ·rw [if_pos] at hG
    ·exact decR_err hG.symm
    ·unfold badR; simpa using h
   have hnb : ¬ badR n' := by
    intro hx
    unfold badR at hx
    have : (decide (n' > 1114111) || decide (n' ≥ 55296) && decide (n' ≤ 57343)) = true := by simpa using hx
    rw [this] at h; cases h
   clear h
   rw [if_neg hnb] at hG
   have hn2 : n' ≤ 1114111 := Int.not_lt.1 fun hx => hnb (.inl hx)
   have hl2 : (o.take r.toNat ++ n' :: o.drop r.toNat).length = o.length + 1 := by
    rw [List.length_append, List.length_take, List.length_cons, List.length_drop]; omega
   refine ⟨by decide, hr1, by omega, hr1, by omega, by omega, by omega, by omega, by omega, by show (r - 0).toNat ≤ o.length; omega, by omega, by omega, by unfold in64; omega,
    ⟨p1 + 1, n', r + 1, adp (j - i1) ((o.length : Int) + 1) (i1 == 0), o.take r.toNat ++ n' :: o.drop r.toNat, f⟩, ⟨⟨by show p1 + 1 ≤ s.size; omega, by show s.size < p1 + 1 + f; omega, by show (o.take r.toNat ++ n' :: o.drop r.toNat).length ≤ p1 + 1; omega, ⟨by show 0 ≤ r + 1; omega, by show r + 1 ≤ ((o.take r.toNat ++ n' :: o.drop r.toNat).length : Int); omega⟩, ⟨by show 128 ≤ n'; omega, hn2⟩, hb, hap, fun y hy => ?_⟩, hG⟩, by show s.size - (p1 + 1) < s.size - p; omega, rfl, rfl, ?_, rfl, rfl, rfl, ?_, ⟨⟨rfl, rfl, rfl⟩, ?_, fun j hj => ?_⟩, trivial⟩
   ·rcases List.mem_append.1 hy with k | k
    ·exact ko y (List.mem_of_mem_take k)
    ·rcases List.mem_cons.1 k with rfl | k
     ·omega
     ·exact ko y (List.mem_of_mem_drop k)
   ·show XV.sl 0 1 0 _ = XV.sl 0 1 0 (o.take r.toNat ++ n' :: o.drop r.toNat).length
    rw [hl2]
    congr 1
    omega
   ·have := rsT_next s p1
    rw [rsT_size] at this
    exact this
   ·show _ = (o.take r.toNat ++ n' :: o.drop r.toNat).length
    rw [hl2]
    omega
   ·rw [w32 (by omega) (by omega)]
    exact ins_row o r n' hr1 (by omega) j hj
  ·have h : ¬ v < thr k b := of_decide_eq_false h
   rw [if_neg h] at hG
   generalize thr k b = t at *
   have hw1 : 1 ≤ w * (36 - t) := by
    have : w * 1 ≤ w * (36 - t) := Int.mul_le_mul_of_nonneg_left (by omega) (by omega)
    omega
   have hw2 : w * (36 - t) ≤ 71303104 * 35 := Int.mul_le_mul (by omega) (by omega) (by omega) (by decide)
   refine ⟨by unfold in64; omega, by unfold in64; omega, by unfold in64; omega, ⟨p1 + 1, i3 + v * w, w * (36 - t), k + 36⟩, ⟨⟨⟨by show p ≤ p1 + 1; omega, by show p1 + 1 ≤ s.size; omega⟩, ⟨by show i1 ≤ i3 + v * w; omega, by show i3 + v * w ≤ 2566911744; omega⟩, ⟨hw1, by show w * (36 - t) ≤ 2495608640; omega⟩, ⟨by show 36 ≤ k + 36; omega, by show k + 36 + 36 * (p : Int) ≤ 36 + 36 * ((p1 + 1 : Nat) : Int); omega⟩, hap⟩, hG⟩, by show s.size - (p1 + 1) < s.size - p1; omega, rfl, rfl, rfl, rfl, rfl, rfl, ?_, rfl, rfl, rfl, ⟨⟨rfl, rfl, rfl⟩, rfl, fun j hj => rfl⟩, trivial⟩
   have := rsT_next s p1
   rw [rsT_size] at this
   exact this
 ·have hp : s.size ≤ p := by simpa using h
  clear h
  have hA : (fun i : Nat => Option.rec (motive := fun _ => Int) 0 (fun v => v) o[i]?) = fun j => o.getD j 0 := by
   funext j; exact (getD_rec o j).symm
  have hnil : lst s p = [] := lst_nil hp
  have hd : dcG f [] n i1 b o = some o := by cases f <;> rfl
  rw [hnil, hd] at hG
  have hg : ∀ i, i < o.length → 0 ≤ o.getD i 0 ∧ o.getD i 0 ≤ 1114111 := fun i hi => by
   rw [List.getD_eq_getElem?_getD, List.getElem?_eq_getElem hi]
   exact ko _ (List.getElem_mem hi)
  obtain ⟨q1, q2⟩ := encR_ok (q := ⟨o.length, fun j => o.getD j 0⟩) (by show o.length ≤ 2000; omega) hg
  dsimp only at q1 q2
  rw [hA]
  have hsa : ascB s := by
   intro b hb
   obtain ⟨j, hj, rfl⟩ := List.getElem_of_mem hb
   have := ka j (by rw [size_data] at hp; omega)
   unfold sbyte at this
   rw [Int.toNat_natCast, List.getD_eq_getElem?_getD, List.getElem?_eq_getElem hj] at this
   simp only [Option.getD_some] at this
   omega
  refine ⟨rfl, fun i hi => congrArg (fun z => [X32 z]) (getD_rec o i), by omega, fun i hi => ?_, fun _ => by rw [txtO_size]; omega, fun _ => txtO_asc q1, fun _ => hsa, fun h => ?_, fun h => ?_⟩
  ·have := hg i hi
   rw [getD_rec] at this
   exact this
  ·rw [decK, if_pos] at hG
   ·exact decR_err hG.symm
   ·simpa using h
  ·rw [decK, if_neg] at hG
   ·rw [← hG]; exact ⟨⟨rfl, rfl, fun j _ => rfl⟩, rfl, trivial⟩
   ·simpa using h
def decC : CT := C1 dStr (fun s => [s.size ≤ 1000000]) fun s => .tup [fzL (decR s).1, XI (decR s).2]
theorem cxd_ok : cxd.ok Tryz.prog := (((((((cx0_ok.addC eqf_ok).addC last_ok).addC adp_ok).addC thr_ok).addC vlu_ok).addC enc_ok)).setK true
theorem dec_ok : CTok Tryz.prog 73 decC := C1_ok cxd_ok Tryz.func73 rfl (by decide) dStr_eq.ok (by kernel_rfl) (fun _ => rfl) fun s hc => exv (decV_eq s) (dec_v s (hc _ (by simp)))
end Go.Proofs.YtkjcoehblekpdaaGreatDoorAv
namespace Go.Proofs.YtkjcoehblekpdaaGreatDoorAv
open Go Go.RowKit
def badC (r : Int) : Bool := decide (r ≥ 128) && !good r || decide (r < 128) && !rgt (⟨#[97]⟩ ++ Utf8.encode r ++ ⟨#[97]⟩)
def bdN (o : List Int) : Nat → Bool
 | 0 => false
 | i + 1 => bdN o i || badC (o.getD i 0)
def byN (o : List Int) : Nat → Bool
 | 0 => false
 | i + 1 => byN o i || decide (o.getD i 0 ≥ 128)
def xnT : ByteArray := ⟨#[120, 110, 45, 45]⟩
def uniL (o : List Int) : ByteArray × Int :=
 if bdN o o.length then (⟨#[]⟩, 3)
 else if !byN o o.length || o.getD 0 0 == 45 || o.getD (o.length - 1) 0 == 45 then (⟨#[]⟩, 3)
 else (encB o, 0)
def uniR (s : ByteArray) : ByteArray × Int :=
 if (cutPreB s xnT).2 = false then (s, 0)
 else if (decR (cutPreB s xnT).1).2 ≠ 0 then (⟨#[]⟩, (decR (cutPreB s xnT).1).2)
 else uniL (decR (cutPreB s xnT).1).1
def unI (s : ByteArray) : Inv where
 σ := IL
 S := fun x => ⟨[(0, XT s), (6, fzL (decR (cutPreB s xnT).1).1), (8, XB (byN (decR (cutPreB s xnT).1).1 x.i)), (27, fzL (decR (cutPreB s xnT).1).1), (28, XI (decR (cutPreB s xnT).1).1.length), (29, XI x.i)], [], 0, false, []⟩
 inv := fun x => x.i ≤ (decR (cutPreB s xnT).1).1.length ∧ bdN (decR (cutPreB s xnT).1).1 x.i = false ∧ uniL (decR (cutPreB s xnT).1).1 = uniR s
 μ := fun x => (decR (cutPreB s xnT).1).1.length - x.i
def unE (s : ByteArray) : Env := { loops := [(0, unI s)] }
def cxu : Cx := { cx0 with C := [(72, cutPreC), (73, decC), (56, goodC), (52, rgtC)] }
def uniV_a (s : ByteArray) :=
 (decR (cutPreB s ⟨#[120, 110, 45, 45]⟩).fst)
def uniV_b (s : ByteArray) :=
 ((XV.fz (uniV_a s).fst.length 1 fun (j : Nat) => [X32 ((uniV_a s).fst.getD j 0)]) = XV.fz (uniV_a s).fst.length 1 fun (j : Nat) => [X32 ((uniV_a s).fst.getD j 0)])
def uniV_c (s : ByteArray) (x : IL) :=
 (!(decide ((uniV_a s).fst.getD (↑x.i : Int).toNat 0 ≥ (128 : Int)) && !good ((uniV_a s).fst.getD (↑x.i : Int).toNat 0)) && decide ((uniV_a s).fst.getD (↑x.i : Int).toNat 0 < (128 : Int)))
def uniV_d (s : ByteArray) (x : IL) :=
 (decide ((uniV_a s).fst.getD (↑x.i : Int).toNat 0 ≥ (128 : Int)) && !good ((uniV_a s).fst.getD (↑x.i : Int).toNat 0) || decide ((uniV_a s).fst.getD (↑x.i : Int).toNat 0 < (128 : Int)) && !rgt (⟨#[97]⟩ ++ Utf8.encode ((uniV_a s).fst.getD (↑x.i : Int).toNat 0) ++ ⟨#[97]⟩))
def uniV (s : ByteArray) : Prop :=
 ((!(cutPreB s ⟨#[120, 110, 45, 45]⟩).snd) = true → s = (uniR s).fst ∧ (0 : Int) = (uniR s).snd ∧ True) ∧ ((!(cutPreB s ⟨#[120, 110, 45, 45]⟩).snd) = false → (cutPreB s ⟨#[120, 110, 45, 45]⟩).fst.size ≤ (1000000 : Nat) ∧ (((uniV_a s).snd != (0 : Int)) = true → ⟨#[]⟩ = (uniR s).fst ∧ (uniV_a s).snd = (uniR s).snd ∧ True) ∧ (((uniV_a s).snd != (0 : Int)) = false → (∃ (x : (unI s).σ), (x.i ≤ (uniV_a s).fst.length ∧ bdN (uniV_a s).fst x.i = false ∧ uniL (uniV_a s).fst = uniR s) ∧ true = true ∧ s = s ∧ (uniV_b s) ∧ false = byN (uniV_a s).fst x.i ∧ (uniV_b s) ∧ (↑(uniV_a s).fst.length : Int) = (↑(uniV_a s).fst.length : Int) ∧ (0 : Int) = (↑x.i : Int) ∧ True) ∧ ∀ (x : IL), x.i ≤ (uniV_a s).fst.length ∧ bdN (uniV_a s).fst x.i = false ∧ uniL (uniV_a s).fst = uniR s → (decide ((↑x.i : Int) < (↑(uniV_a s).fst.length : Int)) = true → (0 : Int) ≤ (↑x.i : Int) ∧ (↑x.i : Int) < (↑(uniV_a s).fst.length : Int) ∧ ((uniV_c s x) = true → (1 : Nat) + (Utf8.encode ((uniV_a s).fst.getD (↑x.i : Int).toNat 0)).size ≤ (9223372036854775807 : Nat)) ∧ ((uniV_c s x) = true → (⟨#[97]⟩ ++ Utf8.encode ((uniV_a s).fst.getD (↑x.i : Int).toNat 0)).size + (1 : Nat) ≤ (9223372036854775807 : Nat)) ∧ ((uniV_c s x) = true → (⟨#[97]⟩ ++ Utf8.encode ((uniV_a s).fst.getD (↑x.i : Int).toNat 0) ++ ⟨#[97]⟩).size ≤ (1000000000 : Nat)) ∧ ((uniV_d s x) = true → ⟨#[]⟩ = (uniR s).fst ∧ (3 : Int) = (uniR s).snd ∧ True) ∧ ((uniV_d s x) = false → in64 ((↑x.i : Int) + (1 : Int)) ∧ ∃ (x' : (unI s).σ), (x'.i ≤ (uniV_a s).fst.length ∧ bdN (uniV_a s).fst x'.i = false ∧ uniL (uniV_a s).fst = uniR s) ∧ (uniV_a s).fst.length - x'.i < (uniV_a s).fst.length - x.i ∧ true = true ∧ s = s ∧ (uniV_b s) ∧ (byN (uniV_a s).fst x.i || decide ((uniV_a s).fst.getD (↑x.i : Int).toNat 0 ≥ (128 : Int))) = byN (uniV_a s).fst x'.i ∧ (uniV_b s) ∧ (↑(uniV_a s).fst.length : Int) = (↑(uniV_a s).fst.length : Int) ∧ (↑x.i : Int) + (1 : Int) = (↑x'.i : Int) ∧ True)) ∧ (decide ((↑x.i : Int) < (↑(uniV_a s).fst.length : Int)) = false → ((!!byN (uniV_a s).fst x.i) = true → (0 : Int) ≤ (0 : Int)) ∧ ((!!byN (uniV_a s).fst x.i) = true → (0 : Int) < (↑(uniV_a s).fst.length : Int)) ∧ ((!(!byN (uniV_a s).fst x.i || (uniV_a s).fst.getD ((0 : Nat)) 0 == (45 : Int))) = true → in64 ((↑(uniV_a s).fst.length : Int) - (1 : Int))) ∧ ((!(!byN (uniV_a s).fst x.i || (uniV_a s).fst.getD ((0 : Nat)) 0 == (45 : Int))) = true → (0 : Int) ≤ (↑(uniV_a s).fst.length : Int) - (1 : Int)) ∧ ((!(!byN (uniV_a s).fst x.i || (uniV_a s).fst.getD ((0 : Nat)) 0 == (45 : Int))) = true → (↑(uniV_a s).fst.length : Int) - (1 : Int) < (↑(uniV_a s).fst.length : Int)) ∧ ((!byN (uniV_a s).fst x.i || (uniV_a s).fst.getD ((0 : Nat)) 0 == (45 : Int) || (uniV_a s).fst.getD ((↑(uniV_a s).fst.length : Int) - (1 : Int)).toNat 0 == (45 : Int)) = true → ⟨#[]⟩ = (uniR s).fst ∧ (3 : Int) = (uniR s).snd ∧ True) ∧ ((!byN (uniV_a s).fst x.i || (uniV_a s).fst.getD ((0 : Nat)) 0 == (45 : Int) || (uniV_a s).fst.getD ((↑(uniV_a s).fst.length : Int) - (1 : Int)).toNat 0 == (45 : Int)) = false → (∀ (j : Nat), j < (uniV_a s).fst.length → [X32 ((uniV_a s).fst.getD j 0)] = [X32 (Option.rec 0 (fun (val : Int) => val) (uniV_a s).fst[j]?)]) ∧ (encT (uniV_a s).fst.length fun (j : Nat) => Option.rec 0 (fun (val : Int) => val) (uniV_a s).fst[j]?) = (uniR s).fst ∧ (0 : Int) = (uniR s).snd ∧ True))))
theorem uniV_eq (s : ByteArray) : uniV s = (funC cxu Tryz.f54 (mkSc (unE s) (bodyOf Tryz.f54)) [XT s] (.tup [XT (uniR s).1, XI (uniR s).2])) := by kernel_rfl
def rnG (s : ByteArray) : Nat → Nat → List Int
 | 0, _ => []
 | f + 1, p => if p < s.size then ((Utf8.decode s p).1 : Int) :: rnG s f (p + (Utf8.decode s p).2) else []
def rns (s : ByteArray) : List Int := rnG s s.size 0
def rnK (acc : List Int) (s : ByteArray) (f p : Nat) : List Int := acc ++ rnG s f p
def ascL (l : List Int) : ByteArray × Int :=
 if bdN l l.length then (⟨#[]⟩, 1)
 else if l.getD 0 0 == 45 || l.getD (l.length - 1) 0 == 45 then (⟨#[]⟩, 1)
 else if (encR (fun j => l.getD j 0) l.length).2 ≠ 0 then (⟨#[]⟩, (encR (fun j => l.getD j 0) l.length).2)
 else if (xnT ++ txtO (encR (fun j => l.getD j 0) l.length).1).size > 63 then (⟨#[]⟩, 2)
 else (xnT ++ txtO (encR (fun j => l.getD j 0) l.length).1, 0)
def ascS (s : ByteArray) : ByteArray × Int :=
 if pla s s.size then
  if rgt s = false then (⟨#[]⟩, 1)
  else if hasPreB s xnT then (s, (uniR s).2) else (s, 0)
 else if validB s = false then (⟨#[]⟩, 1)
 else ascL (rns s)
def ascR (s : ByteArray) : ByteArray × Int := ascS (lowT s)
structure AS where
 f : Nat
 p : Nat
 l : List Int
def asI (s : ByteArray) : Inv where
 σ := AS
 S := fun x => ⟨[(0, XT (lowT s)), (6, .sl 0 1 0 x.l.length), (32, .ptr 1 0 0 0)], [(0, rowR x.l), (1, .it (lowT s) x.p)], 2, false, []⟩
 inv := fun x => rnK x.l (lowT s) x.f x.p = rns (lowT s) ∧ bdN x.l x.l.length = false ∧ (lowT s).size ≤ x.p + x.f ∧ x.l.length ≤ x.p ∧ x.l.length + x.f = (lowT s).size ∧ (∀ y ∈ x.l, 0 ≤ y ∧ y ≤ 1114111) ∧ (x.l.length = 0 → x.p = 0) ∧ ascL (rns (lowT s)) = ascR s
 μ := fun x => x.f
def asE (s : ByteArray) : Env := { loops := [(0, asI s)], own := [(12, [(6, 21, 1)])], frz := [(18, [6])] }
def uniC : CT := C1 dStr (fun s => [s.size ≤ 1000000]) fun s => .tup [XT (uniR s).1, XI (uniR s).2]
def cxa : Cx := { cx0 with C := [(50, lowC), (51, plaC), (52, rgtC), (53, hasPreC), (54, uniC), (55, validC), (56, goodC), (57, encC)] }
noncomputable def ascV_a (s : ByteArray) (x : AS) :=
 (((encR (fun (i : Nat) => Option.rec 0 (fun (val : Int) => val) x.l[i]?) x.l.length).snd != (0 : Int)) = false → (4 : Nat) + (txtO (encR (fun (i : Nat) => Option.rec 0 (fun (val : Int) => val) x.l[i]?) x.l.length).fst).size ≤ (9223372036854775807 : Nat) ∧ (decide ((↑(⟨#[120, 110, 45, 45]⟩ ++ txtO (encR (fun (i : Nat) => Option.rec 0 (fun (val : Int) => val) x.l[i]?) x.l.length).fst).size : Int) > (63 : Int)) = true → ⟨#[]⟩ = (ascR s).fst ∧ (2 : Int) = (ascR s).snd ∧ True) ∧ (decide ((↑(⟨#[120, 110, 45, 45]⟩ ++ txtO (encR (fun (i : Nat) => Option.rec 0 (fun (val : Int) => val) x.l[i]?) x.l.length).fst).size : Int) > (63 : Int)) = false → (4 : Nat) + (txtO (encR (fun (i : Nat) => Option.rec 0 (fun (val : Int) => val) x.l[i]?) x.l.length).fst).size ≤ (9223372036854775807 : Nat) ∧ ⟨#[120, 110, 45, 45]⟩ ++ txtO (encR (fun (i : Nat) => Option.rec 0 (fun (val : Int) => val) x.l[i]?) x.l.length).fst = (ascR s).fst ∧ (0 : Int) = (ascR s).snd ∧ True))
def ascV_b (s : ByteArray) (x : AS) :=
 (!(decide ((↑(Utf8.decode (lowT s) x.p).fst : Int) ≥ (128 : Int)) && !good (↑(Utf8.decode (lowT s) x.p).fst : Int)) && decide ((↑(Utf8.decode (lowT s) x.p).fst : Int) < (128 : Int)))
def ascV_c (x : AS) :=
 (x.l.getD ((0 : Nat)) 0 == (45 : Int) || x.l.getD ((↑x.l.length : Int) - (1 : Int)).toNat 0 == (45 : Int))
def ascV (s : ByteArray) : Prop :=
 s.size ≤ (1000000000 : Nat) ∧ (lowT s).size ≤ (1000000000 : Nat) ∧ (pla (lowT s) (lowT s).size = true → (lowT s).size ≤ (1000000000 : Nat) ∧ ((!rgt (lowT s)) = true → ⟨#[]⟩ = (ascR s).fst ∧ (1 : Int) = (ascR s).snd ∧ True) ∧ ((!rgt (lowT s)) = false → (hasPreB (lowT s) ⟨#[120, 110, 45, 45]⟩ = true → (lowT s).size ≤ (1000000 : Nat) ∧ lowT s = (ascR s).fst ∧ (uniR (lowT s)).snd = (ascR s).snd ∧ True) ∧ (hasPreB (lowT s) ⟨#[120, 110, 45, 45]⟩ = false → lowT s = (ascR s).fst ∧ (0 : Int) = (ascR s).snd ∧ True))) ∧ (pla (lowT s) (lowT s).size = false → (lowT s).size ≤ (1000000000 : Nat) ∧ ((!validB (lowT s)) = true → ⟨#[]⟩ = (ascR s).fst ∧ (1 : Int) = (ascR s).snd ∧ True) ∧ ((!validB (lowT s)) = false → (∃ (x : (asI s).σ), (rnK x.l (lowT s) x.f x.p = rns (lowT s) ∧ bdN x.l x.l.length = false ∧ (lowT s).size ≤ x.p + x.f ∧ x.l.length ≤ x.p ∧ x.l.length + x.f = (lowT s).size ∧ (∀ (y : Int), y ∈ x.l → (0 : Int) ≤ y ∧ y ≤ (1114111 : Int)) ∧ (x.l.length = (0 : Nat) → x.p = (0 : Nat)) ∧ ascL (rns (lowT s)) = ascR s) ∧ true = true ∧ lowT s = lowT s ∧ XV.sl 0 1 0 0 = XV.sl 0 1 0 x.l.length ∧ XV.ptr ((0 : Nat) + (1 : Nat)) 0 0 0 = XV.ptr 1 0 0 0 ∧ (((21 : Nat) = (21 : TypeId) ∧ true = true ∧ (1 : Nat) = (1 : Nat)) ∧ (0 : Nat) = x.l.length ∧ ∀ (j : Nat), j < (0 : Nat) → [] = [X32 (x.l.getD j 0)]) ∧ (lowT s = lowT s ∧ (0 : Nat) = x.p) ∧ True) ∧ ∀ (x : AS), rnK x.l (lowT s) x.f x.p = rns (lowT s) ∧ bdN x.l x.l.length = false ∧ (lowT s).size ≤ x.p + x.f ∧ x.l.length ≤ x.p ∧ x.l.length + x.f = (lowT s).size ∧ (∀ (y : Int), y ∈ x.l → (0 : Int) ≤ y ∧ y ≤ (1114111 : Int)) ∧ (x.l.length = (0 : Nat) → x.p = (0 : Nat)) ∧ ascL (rns (lowT s)) = ascR s → (x.p < (lowT s).size → (true = true → ((ascV_b s x) = true → (1 : Nat) + (Utf8.encode (↑(Utf8.decode (lowT s) x.p).fst : Int)).size ≤ (9223372036854775807 : Nat)) ∧ ((ascV_b s x) = true → (⟨#[97]⟩ ++ Utf8.encode (↑(Utf8.decode (lowT s) x.p).fst : Int)).size + (1 : Nat) ≤ (9223372036854775807 : Nat)) ∧ ((ascV_b s x) = true → (⟨#[97]⟩ ++ Utf8.encode (↑(Utf8.decode (lowT s) x.p).fst : Int) ++ ⟨#[97]⟩).size ≤ (1000000000 : Nat)) ∧ ((decide ((↑(Utf8.decode (lowT s) x.p).fst : Int) ≥ (128 : Int)) && !good (↑(Utf8.decode (lowT s) x.p).fst : Int) || decide ((↑(Utf8.decode (lowT s) x.p).fst : Int) < (128 : Int)) && !rgt (⟨#[97]⟩ ++ Utf8.encode (↑(Utf8.decode (lowT s) x.p).fst : Int) ++ ⟨#[97]⟩)) = true → ⟨#[]⟩ = (ascR s).fst ∧ (1 : Int) = (ascR s).snd ∧ True) ∧ ((decide ((↑(Utf8.decode (lowT s) x.p).fst : Int) ≥ (128 : Int)) && !good (↑(Utf8.decode (lowT s) x.p).fst : Int) || decide ((↑(Utf8.decode (lowT s) x.p).fst : Int) < (128 : Int)) && !rgt (⟨#[97]⟩ ++ Utf8.encode (↑(Utf8.decode (lowT s) x.p).fst : Int) ++ ⟨#[97]⟩)) = false → x.l.length = x.l.length ∧ (x.l.length + (1 : Nat)) * (4 : Nat) ≤ (140737488355328 : Nat) ∧ x.l.length + (1 : Nat) ≤ (140737488355328 : Nat) ∧ ∃ (x' : (asI s).σ), (rnK x'.l (lowT s) x'.f x'.p = rns (lowT s) ∧ bdN x'.l x'.l.length = false ∧ (lowT s).size ≤ x'.p + x'.f ∧ x'.l.length ≤ x'.p ∧ x'.l.length + x'.f = (lowT s).size ∧ (∀ (y : Int), y ∈ x'.l → (0 : Int) ≤ y ∧ y ≤ (1114111 : Int)) ∧ (x'.l.length = (0 : Nat) → x'.p = (0 : Nat)) ∧ ascL (rns (lowT s)) = ascR s) ∧ x'.f < x.f ∧ true = true ∧ lowT s = lowT s ∧ XV.sl 0 1 0 (x.l.length + (1 : Nat)) = XV.sl 0 1 0 x'.l.length ∧ XV.ptr 1 0 0 0 = XV.ptr 1 0 0 0 ∧ (((21 : TypeId) = (21 : TypeId) ∧ true = true ∧ (1 : Nat) = (1 : Nat)) ∧ x.l.length + (1 : Nat) = x'.l.length ∧ ∀ (j : Nat), j < x.l.length + (1 : Nat) → [Bool.rec (X32 (↑(Utf8.decode (lowT s) x.p).fst : Int)) (X32 (x.l.getD j 0)) (j.blt x.l.length)] = [X32 (x'.l.getD j 0)]) ∧ (lowT s = lowT s ∧ x.p + (Utf8.decode (lowT s) x.p).snd = x'.p) ∧ True)) ∧ (true = false → x.l.length = x.l.length ∧ (0 : Int) ≤ (0 : Int) ∧ (0 : Int) < (↑x.l.length : Int) ∧ ((!x.l.getD ((0 : Nat)) 0 == (45 : Int)) = true → in64 ((↑x.l.length : Int) - (1 : Int))) ∧ ((!x.l.getD ((0 : Nat)) 0 == (45 : Int)) = true → (0 : Int) ≤ (↑x.l.length : Int) - (1 : Int)) ∧ ((!x.l.getD ((0 : Nat)) 0 == (45 : Int)) = true → (↑x.l.length : Int) - (1 : Int) < (↑x.l.length : Int)) ∧ ((ascV_c x) = true → ⟨#[]⟩ = (ascR s).fst ∧ (1 : Int) = (ascR s).snd ∧ True) ∧ ((ascV_c x) = false → (∀ (i : Nat), i < x.l.length → [X32 (x.l.getD i 0)] = [X32 (Option.rec 0 (fun (val : Int) => val) x.l[i]?)]) ∧ x.l.length ≤ (2000 : Nat) ∧ (∀ (i : Nat), i < x.l.length → (0 : Int) ≤ Option.rec 0 (fun (val : Int) => val) x.l[i]? ∧ Option.rec 0 (fun (val : Int) => val) x.l[i]? ≤ (1114111 : Int)) ∧ (((encR (fun (i : Nat) => Option.rec 0 (fun (val : Int) => val) x.l[i]?) x.l.length).snd != (0 : Int)) = true → ⟨#[]⟩ = (ascR s).fst ∧ (encR (fun (i : Nat) => Option.rec 0 (fun (val : Int) => val) x.l[i]?) x.l.length).snd = (ascR s).snd ∧ True) ∧ (ascV_a s x)))) ∧ ((lowT s).size ≤ x.p → (false = true → False) ∧ (false = false → x.l.length = x.l.length ∧ (0 : Int) ≤ (0 : Int) ∧ (0 : Int) < (↑x.l.length : Int) ∧ ((!x.l.getD ((0 : Nat)) 0 == (45 : Int)) = true → in64 ((↑x.l.length : Int) - (1 : Int))) ∧ ((!x.l.getD ((0 : Nat)) 0 == (45 : Int)) = true → (0 : Int) ≤ (↑x.l.length : Int) - (1 : Int)) ∧ ((!x.l.getD ((0 : Nat)) 0 == (45 : Int)) = true → (↑x.l.length : Int) - (1 : Int) < (↑x.l.length : Int)) ∧ ((ascV_c x) = true → ⟨#[]⟩ = (ascR s).fst ∧ (1 : Int) = (ascR s).snd ∧ True) ∧ ((ascV_c x) = false → (∀ (i : Nat), i < x.l.length → [X32 (x.l.getD i 0)] = [X32 (Option.rec 0 (fun (val : Int) => val) x.l[i]?)]) ∧ x.l.length ≤ (2000 : Nat) ∧ (∀ (i : Nat), i < x.l.length → (0 : Int) ≤ Option.rec 0 (fun (val : Int) => val) x.l[i]? ∧ Option.rec 0 (fun (val : Int) => val) x.l[i]? ≤ (1114111 : Int)) ∧ (((encR (fun (i : Nat) => Option.rec 0 (fun (val : Int) => val) x.l[i]?) x.l.length).snd != (0 : Int)) = true → ⟨#[]⟩ = (ascR s).fst ∧ (encR (fun (i : Nat) => Option.rec 0 (fun (val : Int) => val) x.l[i]?) x.l.length).snd = (ascR s).snd ∧ True) ∧ (ascV_a s x))))))
theorem ascV_eq (s : ByteArray) : ascV s = (funC cxa Tryz.f36 (mkSc (asE s) (bodyOf Tryz.f36)) [XT s] (.tup [XT (ascR s).1, XI (ascR s).2])) := by kernel_rfl
theorem enc8_size (r : Int) : (Utf8.encode r).size ≤ 4 := by
 unfold Utf8.encode
 generalize (if Utf8.valid r = true then r.toNat else Utf8.runeError) = c
 dsimp only
 split
 ·exact (by decide : 1 ≤ 4)
 ·split
  ·exact (by decide : 2 ≤ 4)
  ·split
   ·exact (by decide : 3 ≤ 4)
   ·exact Nat.le_refl 4
theorem dec8_rng (s : ByteArray) (p : Nat) : (Utf8.decode s p).1 ≤ 1114111 ∧ 1 ≤ (Utf8.decode s p).2 := by
 have hb : ∀ k, (s.get! k).toNat < 256 := fun k => UInt8.toNat_lt _
 have hv : ∀ c : Nat, Utf8.valid c = true → c ≤ 1114111 := fun c h => by
  unfold Utf8.valid at h
  simp only [Bool.or_eq_true, Bool.and_eq_true, decide_eq_true_eq] at h
  omega
 unfold Utf8.decode
 dsimp only
 have h0 := hb p
 have h1 := hb (p + 1)
 have h2 := hb (p + 2)
 split
 ·exact ⟨by dsimp only; omega, Nat.le_refl _⟩
 split
 ·split
  ·exact ⟨by dsimp only; omega, by dsimp only; omega⟩
  ·exact ⟨by decide, by decide⟩
 split
 ·split
  ·exact ⟨by dsimp only; omega, by dsimp only; omega⟩
  ·exact ⟨by decide, by decide⟩
 split
 ·split
  ·rename_i h
   simp only [Bool.and_eq_true, decide_eq_true_eq] at h
   exact ⟨hv _ h.2, by dsimp only; omega⟩
  ·exact ⟨by decide, by decide⟩
 exact ⟨by decide, by decide⟩
theorem txtOf_size (n : Nat) (f : Nat → UInt8) : (txtOf n f).size = n := by
 unfold txtOf ofBytes
 show ((List.range n).map f).length = n
 simp
theorem lowT_size (s : ByteArray) : (lowT s).size = s.size := txtOf_size _ _
theorem cutPre_size (s p : ByteArray) : (cutPreB s p).1.size ≤ s.size := by
 unfold cutPreB
 rw [mk8_size, size_data, Lib.trimPrefix]
 split
 ·rw [List.length_drop]; omega
 ·exact Nat.le_refl _
theorem bdN_succ {o : List Int} {i : Nat} (h : bdN o i = false) (h1 : badC (o.getD i 0) = false) : bdN o (i + 1) = false := by rw [bdN, h, h1]; rfl
theorem bdN_le (o : List Int) (i : Nat) : ∀ n, i ≤ n → bdN o i = true → bdN o n = true
  | 0, h, k => by obtain rfl : i = 0 := by omega
                  exact k
  | n + 1, h, k => by
    by_cases e : i = n + 1
    · rw [← e]; exact k
    · rw [bdN, bdN_le o i n (by omega) k]; rfl
theorem pair_eq {α β : Type} {x : α × β} {a : α} {b : β} (h : x = (a, b)) : a = x.1 ∧ b = x.2 ∧ True := by rw [h]; exact ⟨rfl, rfl, trivial⟩
theorem dnG_len (b : Int) : ∀ (l : List UInt8) (i w k : Int) (l' : List UInt8) (j : Int), dnG b l i w k = some (l', j) → l'.length < l.length
 | [], i, w, k, l', j, h => by simp [dnG] at h
 | c :: l, i, w, k, l', j, h => by
  rw [dnG] at h
  split at h
  ·cases h
  ·split at h
   ·simp only [Option.some.injEq, Prod.mk.injEq] at h
    rw [← h.1]; exact Nat.lt_succ_self _
   ·have := dnG_len b l _ _ _ l' j h
    simp only [List.length_cons]; omega
theorem dcG_len : ∀ (f : Nat) (l : List UInt8) (n i b : Int) (o o' : List Int), dcG f l n i b o = some o' → o'.length ≤ o.length + l.length
 | f, [], n, i, b, o, o', h => by
  have : dcG f [] n i b o = some o := by cases f <;> rfl
  rw [this] at h
  obtain rfl := Option.some.inj h
  omega
 | 0, c :: l, n, i, b, o, o', h => by simp [dcG] at h
 | f + 1, c :: l, n, i, b, o, o', h => by
  rw [dcG_cons] at h
  cases hd : dnG b (c :: l) i 1 36 with
  | none => rw [hd] at h; cases h
  | some r =>
   obtain ⟨l', j⟩ := r
   rw [hd, dcN] at h
   split at h
   ·cases h
   ·have h1 := dnG_len _ _ _ _ _ _ _ hd
    have h2 := dcG_len f l' _ _ _ _ o' h
    rw [List.length_append, List.length_cons, List.length_take, List.length_drop] at h2
    omega
theorem decR_len (s : ByteArray) : (decR s).1.length ≤ 126 := by
 rw [decR]
 split
 ·simp
 ·rename_i h63
  split
  ·simp
  ·have hk : ∀ r, (decK s r).1.length ≤ 126 ∨ ∃ o, r = some o ∧ (decK s r).1 = o := by
    intro r
    cases r with
    | none => left; simp [decK]
    | some o =>
     rw [decK]
     split
     ·left; simp
     ·right; exact ⟨o, rfl, rfl⟩
   rcases hk (dcG (s.size + 1) (lst s (lastB s 45 + 1).toNat) 128 0 72 (preL s (imax (lastB s 45) 0).toNat)) with h | ⟨o, h1, h2⟩
   ·exact h
   ·rw [h2]
    have := dcG_len _ _ _ _ _ _ _ h1
    have e1 : (preL s (imax (lastB s 45) 0).toNat).length ≤ s.size := by
     unfold preL
     rw [List.length_map, List.length_take, ← size_data]; omega
    have e2 : (lst s (lastB s 45 + 1).toNat).length ≤ s.size := by
     unfold lst
     rw [List.length_drop, ← size_data]; omega
    omega
theorem uni_v (s : ByteArray) (hs : s.size ≤ 1000000) : uniV s := by
 have hsz := cutPre_size s xnT
 unfold uniV uniV_d uniV_c uniV_b uniV_a
 rw [show (⟨#[120, 110, 45, 45]⟩ : ByteArray) = xnT from rfl]
 refine ⟨fun h => ?_, fun h => ?_⟩
 ·have h : (cutPreB s xnT).2 = false := by simpa using h
  exact pair_eq (by rw [uniR, if_pos h])
 have h0 : ¬ (cutPreB s xnT).2 = false := by simpa using h
 clear h
 refine ⟨by omega, fun h => ?_, fun h => ?_⟩
 ·have h : (decR (cutPreB s xnT).1).2 ≠ 0 := by simpa using h
  exact pair_eq (by rw [uniR, if_neg h0, if_pos h])
 have h1 : ¬ (decR (cutPreB s xnT).1).2 ≠ 0 := by simpa using h
 clear h
 have hU : uniL (decR (cutPreB s xnT).1).1 = uniR s := by rw [uniR, if_neg h0, if_neg h1]
 refine ⟨⟨⟨0⟩, ⟨Nat.zero_le _, rfl, hU⟩, rfl, rfl, rfl, rfl, rfl, rfl, rfl, trivial⟩, ?_⟩
 have hol := decR_len (cutPreB s xnT).1
 generalize (decR (cutPreB s xnT).1).1 = o at *
 rintro ⟨i⟩ ⟨hi, hb, -⟩
 have hi : i ≤ o.length := hi
 have hb : bdN o i = false := hb
 dsimp only
 refine ⟨fun h => ?_, fun h => ?_⟩
 ·have h : (i : Int) < o.length := of_decide_eq_true h
  have he := enc8_size (o.getD i 0)
  rw [Int.toNat_natCast]
  refine ⟨by omega, h, fun _ => by omega, fun _ => by rw [ByteArray.size_append]; show 1 + _ + 1 ≤ _; omega, fun _ => by rw [ByteArray.size_append, ByteArray.size_append]; show 1 + _ + 1 ≤ _; omega, fun h1 => ?_, fun h1 => ?_⟩
  ·have h1 : badC (o.getD i 0) = true := h1
   exact pair_eq (by rw [← hU, uniL, if_pos]; exact bdN_le o (i + 1) _ (by omega) (by rw [bdN, h1, Bool.or_true]))
  ·have h1 : badC (o.getD i 0) = false := h1
   exact ⟨by unfold in64; omega, ⟨i + 1⟩, ⟨by show i + 1 ≤ o.length; omega, bdN_succ hb h1, hU⟩, by show o.length - (i + 1) < o.length - i; omega, rfl, rfl, rfl, rfl, rfl, rfl, rfl, trivial⟩
 have h : ¬ (i : Int) < o.length := of_decide_eq_false h
 obtain rfl : i = o.length := by omega
 have hpos : byN o o.length = true → 0 < o.length := fun h => by
  cases o with
  | nil => cases h
  | cons _ _ => exact Nat.succ_pos _
 have hp2 : ∀ c, (!(!byN o o.length || c)) = true → 0 < o.length := fun c h => hpos (by simp at h; exact h.1)
 have ei : ((o.length : Int) - 1).toNat = o.length - 1 := by omega
 rw [ei]
 refine ⟨fun _ => Int.le_refl _, fun h => ?_, fun h => ?_, fun h => ?_, fun _ => by omega, fun h => ?_, fun h => ?_⟩
 ·have := hpos (by simpa using h); omega
 ·have := hp2 _ h; unfold in64; omega
 ·have := hp2 _ h; omega
 ·exact pair_eq (by rw [← hU, uniL, if_neg (by rw [hb]; simp), if_pos h])
 ·refine ⟨fun j _ => congrArg (fun z => [X32 z]) (getD_rec o j), ?_⟩
  have hA : (fun j : Nat => Option.rec (motive := fun _ => Int) 0 (fun v => v) o[j]?) = fun j => o.getD j 0 := by
   funext j; exact (getD_rec o j).symm
  have hE : encT o.length (fun j => Option.rec (motive := fun _ => Int) 0 (fun v => v) o[j]?) = encB o := by
   rw [hA, encT]
   congr 1
   apply List.ext_getElem?
   intro j
   rw [List.getElem?_map]
   by_cases hj : j < o.length
   ·rw [List.getElem?_range hj, List.getElem?_eq_getElem hj]
    simp only [Option.map_some]
    rw [List.getD_eq_getElem?_getD, List.getElem?_eq_getElem hj]
    rfl
   ·rw [List.getElem?_eq_none (by simpa using hj), List.getElem?_eq_none (by omega)]
    rfl
  have := pair_eq (x := uniR s) (a := encB o) (b := 0) (by rw [← hU, uniL, if_neg (by rw [hb]; simp), if_neg (by rw [h]; simp)])
  exact ⟨hE.trans this.1, this.2⟩
theorem cxu_ok : cxu.ok Tryz.prog := (((cx0_ok.addC rgt_ok).addC good_ok).addC dec_ok).addC cutPre_ok
theorem uni_ok : CTok Tryz.prog 54 uniC := C1_ok cxu_ok Tryz.func54 rfl (by decide) dStr_eq.ok (by kernel_rfl) (fun _ => rfl) fun s hc => exv (uniV_eq s) (uni_v s (hc _ (by simp)))
theorem cxa_ok : cxa.ok Tryz.prog := (((((((cx0_ok.addC enc_ok).addC good_ok).addC valid_ok).addC uni_ok).addC hasPre_ok).addC rgt_ok).addC pla_ok).addC low_ok
theorem rnG_yes {s : ByteArray} {f p : Nat} (h : p < s.size) : rnG s (f + 1) p = ((Utf8.decode s p).1 : Int) :: rnG s f (p + (Utf8.decode s p).2) := by rw [rnG, if_pos h]
theorem rnG_no {s : ByteArray} {f p : Nat} (h : ¬ p < s.size) : rnG s f p = [] := by
 cases f with
 | zero => rfl
 | succ f => rw [rnG, if_neg h]
theorem bdN_app (o l : List Int) : ∀ i, i ≤ o.length → bdN (o ++ l) i = bdN o i
 | 0, _ => rfl
 | i + 1, h => by
  rw [bdN, bdN, bdN_app o l i (by omega)]
  congr 2
  rw [List.getD_eq_getElem?_getD, List.getD_eq_getElem?_getD, List.getElem?_append_left (by omega)]
theorem bdN_snoc (o : List Int) (r : Int) : bdN (o ++ [r]) (o ++ [r]).length = (bdN o o.length || badC r) := by
 rw [List.length_append, List.length_singleton, bdN, bdN_app o [r] o.length (Nat.le_refl _)]
 congr 2
 rw [List.getD_eq_getElem?_getD]
 simp
theorem pla_pos (s : ByteArray) (h : pla s s.size = false) : 0 < s.size := by
 cases hs : s.size with
 | zero => rw [hs] at h; cases h
 | succ n => exact Nat.succ_pos _
theorem asc_v (s : ByteArray) (hs : s.size ≤ 2000) : ascV s := by
 have hls := lowT_size s
 unfold ascV ascV_c ascV_b ascV_a
 rw [show (⟨#[120, 110, 45, 45]⟩ : ByteArray) = xnT from rfl]
 have hR : ascR s = ascS (lowT s) := rfl
 generalize hr : ascR s = res at *
 generalize lowT s = t at *
 refine ⟨by omega, by omega, fun hp => ⟨by omega, fun h => ?_, fun h => ⟨fun h2 => ⟨by omega, ?_⟩, fun h2 => ?_⟩⟩, fun hp => ⟨by omega, fun h => ?_, fun h => ?_⟩⟩
 ·have h : rgt t = false := by simpa using h
  exact pair_eq (by rw [hR, ascS, if_pos hp, if_pos h])
 ·have h : ¬ rgt t = false := by simpa using h
  exact pair_eq (by rw [hR, ascS, if_pos hp, if_neg h, if_pos h2])
 ·have h : ¬ rgt t = false := by simpa using h
  exact pair_eq (by rw [hR, ascS, if_pos hp, if_neg h, if_neg (by rw [h2]; decide)])
 ·have h : validB t = false := by simpa using h
  exact pair_eq (by rw [hR, ascS, if_neg (by rw [hp]; decide), if_pos h])
 have hv : ¬ validB t = false := by simpa using h
 clear h
 have hL : ascL (rns t) = res := by rw [hR, ascS, if_neg (by rw [hp]; decide), if_neg hv]
 have hpos := pla_pos t hp
 refine ⟨⟨⟨t.size, 0, []⟩, ⟨rfl, rfl, by show t.size ≤ 0 + t.size; omega, Nat.le_refl _, by show 0 + t.size = t.size; omega, fun y hy => by simp at hy, fun _ => rfl, hL⟩, rfl, rfl, rfl, rfl, ⟨⟨rfl, rfl, rfl⟩, rfl, fun j hj => absurd hj (Nat.not_lt_zero _)⟩, ⟨rfl, rfl⟩, trivial⟩, ?_⟩
 rintro ⟨f, p, l⟩ ⟨i1, i2, i3, i4, i5, i6, i7, -⟩
 dsimp only at i1 i2 i3 i4 i5 i6 i7
 dsimp only
 have hA : (fun i : Nat => Option.rec (motive := fun _ => Int) 0 (fun v => v) l[i]?) = fun j => l.getD j 0 := by
  funext j; exact (getD_rec l j).symm
 have fin : ¬ p < t.size → l.length = l.length ∧ (0 : Int) ≤ 0 ∧ (0 : Int) < l.length ∧ ((!l.getD 0 0 == 45) = true → in64 ((l.length : Int) - 1)) ∧ ((!l.getD 0 0 == 45) = true → (0 : Int) ≤ (l.length : Int) - 1) ∧ ((!l.getD 0 0 == 45) = true → (l.length : Int) - 1 < l.length) ∧
   ((l.getD 0 0 == 45 || l.getD ((l.length : Int) - 1).toNat 0 == 45) = true → (⟨#[]⟩ : ByteArray) = res.1 ∧ 1 = res.2 ∧ True) ∧
   ((l.getD 0 0 == 45 || l.getD ((l.length : Int) - 1).toNat 0 == 45) = false → (∀ i : Nat, i < l.length → ([X32 (l.getD i 0)] : List XV) = [X32 (Option.rec (motive := fun _ => Int) 0 (fun v => v) l[i]?)]) ∧ l.length ≤ 2000 ∧
    (∀ i : Nat, i < l.length → 0 ≤ (Option.rec (motive := fun _ => Int) 0 (fun v => v) l[i]? : Int) ∧ (Option.rec (motive := fun _ => Int) 0 (fun v => v) l[i]? : Int) ≤ 1114111) ∧
    (((encR (fun j => l.getD j 0) l.length).2 != 0) = true → (⟨#[]⟩ : ByteArray) = res.1 ∧ (encR (fun j => l.getD j 0) l.length).2 = res.2 ∧ True) ∧
    (((encR (fun j => l.getD j 0) l.length).2 != 0) = false → 4 + (txtO (encR (fun j => l.getD j 0) l.length).1).size ≤ 9223372036854775807 ∧
     (decide (((xnT ++ txtO (encR (fun j => l.getD j 0) l.length).1).size : Int) > 63) = true → (⟨#[]⟩ : ByteArray) = res.1 ∧ 2 = res.2 ∧ True) ∧
     (decide (((xnT ++ txtO (encR (fun j => l.getD j 0) l.length).1).size : Int) > 63) = false → 4 + (txtO (encR (fun j => l.getD j 0) l.length).1).size ≤ 9223372036854775807 ∧ xnT ++ txtO (encR (fun j => l.getD j 0) l.length).1 = res.1 ∧ 0 = res.2 ∧ True))) := by
  intro h
  have e : rns t = l := by rw [← i1, rnK, rnG_no h, List.append_nil]
  rw [e] at hL
  have hl0 : l.length ≠ 0 := fun h0 => by have := i7 h0; omega
  have ei : ((l.length : Int) - 1).toNat = l.length - 1 := by omega
  have hg : ∀ i, i < l.length → 0 ≤ l.getD i 0 ∧ l.getD i 0 ≤ 1114111 := fun i hi => by
   rw [List.getD_eq_getElem?_getD, List.getElem?_eq_getElem hi]
   exact i6 _ (List.getElem_mem hi)
  obtain ⟨q1, q2⟩ := encR_ok (q := ⟨l.length, fun j => l.getD j 0⟩) (by show l.length ≤ 2000; omega) hg
  dsimp only at q1 q2
  rw [ei]
  refine ⟨rfl, Int.le_refl _, by omega, fun _ => by unfold in64; omega, fun _ => by omega, fun _ => by omega, fun h => ?_, fun h => ⟨fun i _ => congrArg (fun z => [X32 z]) (getD_rec l i), by omega, fun i hi => ?_, fun h2 => ?_, fun h2 => ?_⟩⟩
  ·exact pair_eq (by rw [← hL, ascL, if_neg (by rw [i2]; decide), if_pos h])
  ·have := hg i hi
   rw [getD_rec] at this
   exact this
  ·exact pair_eq (by rw [← hL, ascL, if_neg (by rw [i2]; decide), if_neg (by rw [h]; decide), if_pos (by simpa using h2)])
  ·have h2 : ¬ (encR (fun j => l.getD j 0) l.length).2 ≠ 0 := by simpa using h2
   have ht := txtO_size (encR (fun j => l.getD j 0) l.length).1
   refine ⟨by omega, fun h3 => ?_, fun h3 => ⟨by omega, ?_⟩⟩
   ·have h3 : ((xnT ++ txtO (encR (fun j => l.getD j 0) l.length).1).size : Int) > 63 := of_decide_eq_true h3
    exact pair_eq (by rw [← hL, ascL, if_neg (by rw [i2]; decide), if_neg (by rw [h]; decide), if_neg h2, if_pos (by omega)])
   ·have h3 : ¬ ((xnT ++ txtO (encR (fun j => l.getD j 0) l.length).1).size : Int) > 63 := of_decide_eq_false h3
    exact pair_eq (by rw [← hL, ascL, if_neg (by rw [i2]; decide), if_neg (by rw [h]; decide), if_neg h2, if_neg (by omega)])
 rw [hA]
 refine ⟨fun h => ⟨fun _ => ?_, fun h2 => by cases h2⟩, fun h => ⟨fun h2 => absurd h2 (by decide), fun _ => fin (by omega)⟩⟩
 have hd := dec8_rng t p
 have he := enc8_size ((Utf8.decode t p).1 : Int)
 obtain ⟨f, rfl⟩ : ∃ f', f = f' + 1 := ⟨f - 1, by omega⟩
 have hsn : rnK (l ++ [((Utf8.decode t p).1 : Int)]) t f (p + (Utf8.decode t p).2) = rns t := by
  rw [← i1, rnK, rnK, rnG_yes h, List.append_assoc]; rfl
 generalize hrr : ((Utf8.decode t p).1 : Int) = r at *
 refine ⟨fun _ => by omega, fun _ => by rw [ByteArray.size_append]; show 1 + _ + 1 ≤ _; omega, fun _ => by rw [ByteArray.size_append, ByteArray.size_append]; show 1 + _ + 1 ≤ _; omega, fun h1 => ?_, fun h1 => ?_⟩
 ·have h1 : badC r = true := h1
  refine pair_eq ?_
  rw [← hL, ascL, if_pos]
  rw [← hsn, rnK]
  have h2 := bdN_snoc l r
  rw [h1, Bool.or_true] at h2
  generalize rnG t f (p + (Utf8.decode t p).2) = tl
  refine bdN_le _ (l ++ [r]).length _ (by rw [show ((l ++ [r]) ++ tl).length = (l ++ [r]).length + tl.length from List.length_append]; exact Nat.le_add_right _ _) ?_
  rw [bdN_app _ _ _ (Nat.le_refl _)]
  exact h2
 ·have h1 : badC r = false := h1
  refine ⟨rfl, by omega, by omega, ⟨f, p + (Utf8.decode t p).2, l ++ [r]⟩, ⟨hsn, by show bdN (l ++ [r]) (l ++ [r]).length = false; rw [bdN_snoc, i2, h1]; rfl, by show t.size ≤ p + (Utf8.decode t p).2 + f; omega, by show (l ++ [r]).length ≤ _; rw [List.length_append, List.length_singleton]; show l.length + 1 ≤ p + (Utf8.decode t p).2; omega, by show (l ++ [r]).length + f = t.size; rw [List.length_append, List.length_singleton]; omega, fun y hy => ?_, fun h0 => by simp at h0, hL⟩, by show f < f + 1; omega, rfl, rfl, by rw [List.length_append]; rfl, rfl, ⟨⟨rfl, rfl, rfl⟩, by rw [List.length_append]; rfl, fun j hj => ?_⟩, ⟨rfl, rfl⟩, trivial⟩
  ·rcases List.mem_append.1 hy with k | k
   ·exact i6 y k
   ·obtain rfl := List.mem_singleton.1 k
    omega
  ·rw [bltN, List.getD_eq_getElem?_getD, List.getD_eq_getElem?_getD]
   by_cases e : j < l.length
   ·rw [decide_eq_true e, List.getElem?_append_left e]
   ·rw [decide_eq_false e, show j = l.length by omega]
    simp
def ascC : CT := C1 dStr (fun s => [s.size ≤ 2000]) fun s => .tup [XT (ascR s).1, XI (ascR s).2]
theorem asc_ok : CTok Tryz.prog 36 ascC := C1_ok cxa_ok Tryz.func36 rfl (by decide) dStr_eq.ok (by kernel_rfl) (fun _ => rfl) fun s hc => exv (ascV_eq s) (asc_v s (hc _ (by simp)))
end Go.Proofs.YtkjcoehblekpdaaGreatDoorAv
namespace Go.Proofs.YtkjcoehblekpdaaGreatDoorAv
open Go Go.RowKit
def ptT : ByteArray := ⟨#[46]⟩
def eaE (f : ByteArray → ByteArray × Int) (l : List ByteArray) : Nat → Int
 | 0 => 0
 | i + 1 => if eaE f l i ≠ 0 then eaE f l i else (f (l.getD i ⟨#[]⟩)).2
def labs (s : ByteArray) : List ByteArray := splitS (cutSufB s ptT).1 ptT
def eaR (f : ByteArray → ByteArray × Int) (s : ByteArray) : ByteArray × Int :=
 if eaE f (labs s) (labs s).length ≠ 0 then (⟨#[]⟩, eaE f (labs s) (labs s).length) else (ljF (fun j => (f ((labs s).getD j ⟨#[]⟩)).1) (labs s).length, 0)
def FN (f : FuncId) : XV := .v (.p (.func (.func f) #[] #[]))
def eaI (fn : FuncId) (f : ByteArray → ByteArray × Int) (s : ByteArray) : Inv where
 σ := IL
 S := fun x => ⟨[(1, FN fn), (6, .sl 0 1 0 x.i), (17, strsL (labs s)), (18, XI (labs s).length), (19, XI x.i)], [(0, .vec 9 true x.i 1 fun j => [XT (f ((labs s).getD j ⟨#[]⟩)).1])], 1, false, []⟩
 inv := fun x => x.i ≤ (labs s).length ∧ eaE f (labs s) x.i = 0
 μ := fun x => (labs s).length - x.i
def eaEn (fn : FuncId) (f : ByteArray → ByteArray × Int) (s : ByteArray) : Env := { loops := [(0, eaI fn f s)], own := [(3, [(6, 9, 1)])], frz := [(11, [6])] }
def cxea : Cx := { cx0 with C := [(48, cutSufC), (49, lspC), (26, ljnC), (36, ascC), (54, uniC)] }
def eaAV_a (s : ByteArray) :=
 (splitS (cutSufB s ⟨#[46]⟩).fst ⟨#[46]⟩)
def eaAV (s : ByteArray) : Prop :=
 s.size ≤ (1000000000 : Nat) ∧ (cutSufB s ⟨#[46]⟩).fst.size ≤ (1000000000 : Nat) ∧ (∃ (x : (eaI (36 : FuncId) ascR s).σ), (x.i ≤ (eaAV_a s).length ∧ eaE ascR (eaAV_a s) x.i = (0 : Int)) ∧ true = true ∧ XV.v (AV.p (Value.func (Fn.func (36 : FuncId)) #[] #[])) = XV.v (AV.p (Value.func (Fn.func (36 : FuncId)) #[] #[])) ∧ XV.sl 0 1 0 0 = XV.sl 0 1 0 x.i ∧ ((XV.fz (eaAV_a s).length 1 fun (i : Nat) => [XT ((eaAV_a s).getD i ⟨#[]⟩)]) = XV.fz (eaAV_a s).length 1 fun (i : Nat) => [XT ((eaAV_a s).getD i ⟨#[]⟩)]) ∧ (↑(eaAV_a s).length : Int) = (↑(eaAV_a s).length : Int) ∧ (0 : Int) = (↑x.i : Int) ∧ (((9 : Nat) = (9 : TypeId) ∧ true = true ∧ (1 : Nat) = (1 : Nat)) ∧ (0 : Nat) = x.i ∧ ∀ (j : Nat), j < (0 : Nat) → [] = [XT ((ascR ((eaAV_a s).getD j ⟨#[]⟩)).fst)]) ∧ True) ∧ ∀ (x : IL), x.i ≤ (eaAV_a s).length ∧ eaE ascR (eaAV_a s) x.i = (0 : Int) → (decide ((↑x.i : Int) < (↑(eaAV_a s).length : Int)) = true → (0 : Int) ≤ (↑x.i : Int) ∧ (↑x.i : Int) < (↑(eaAV_a s).length : Int) ∧ ((eaAV_a s).getD (↑x.i : Int).toNat ⟨#[]⟩).size ≤ (2000 : Nat) ∧ (((ascR ((eaAV_a s).getD (↑x.i : Int).toNat ⟨#[]⟩)).snd != (0 : Int)) = true → ⟨#[]⟩ = (eaR ascR s).fst ∧ (ascR ((eaAV_a s).getD (↑x.i : Int).toNat ⟨#[]⟩)).snd = (eaR ascR s).snd ∧ True) ∧ (((ascR ((eaAV_a s).getD (↑x.i : Int).toNat ⟨#[]⟩)).snd != (0 : Int)) = false → x.i = x.i ∧ (x.i + (1 : Nat)) * (16 : Nat) ≤ (140737488355328 : Nat) ∧ x.i + (1 : Nat) ≤ (140737488355328 : Nat) ∧ in64 ((↑x.i : Int) + (1 : Int)) ∧ ∃ (x' : (eaI (36 : FuncId) ascR s).σ), (x'.i ≤ (eaAV_a s).length ∧ eaE ascR (eaAV_a s) x'.i = (0 : Int)) ∧ (eaAV_a s).length - x'.i < (eaAV_a s).length - x.i ∧ true = true ∧ XV.v (AV.p (Value.func (Fn.func (36 : FuncId)) #[] #[])) = XV.v (AV.p (Value.func (Fn.func (36 : FuncId)) #[] #[])) ∧ XV.sl 0 1 0 (x.i + (1 : Nat)) = XV.sl 0 1 0 x'.i ∧ ((XV.fz (eaAV_a s).length 1 fun (i : Nat) => [XT ((eaAV_a s).getD i ⟨#[]⟩)]) = XV.fz (eaAV_a s).length 1 fun (i : Nat) => [XT ((eaAV_a s).getD i ⟨#[]⟩)]) ∧ (↑(eaAV_a s).length : Int) = (↑(eaAV_a s).length : Int) ∧ (↑x.i : Int) + (1 : Int) = (↑x'.i : Int) ∧ (((9 : TypeId) = (9 : TypeId) ∧ true = true ∧ (1 : Nat) = (1 : Nat)) ∧ x.i + (1 : Nat) = x'.i ∧ ∀ (j : Nat), j < x.i + (1 : Nat) → [XT (bif j.blt x.i then (ascR ((eaAV_a s).getD j ⟨#[]⟩)).fst else (ascR ((eaAV_a s).getD (↑x.i : Int).toNat ⟨#[]⟩)).fst)] = [XT ((ascR ((eaAV_a s).getD j ⟨#[]⟩)).fst)]) ∧ True)) ∧ (decide ((↑x.i : Int) < (↑(eaAV_a s).length : Int)) = false → x.i = x.i ∧ (∀ (i : Nat), i < x.i → [XT ((ascR ((eaAV_a s).getD i ⟨#[]⟩)).fst)] = [XT ((ascR ((eaAV_a s).getD i ⟨#[]⟩)).fst)]) ∧ x.i ≤ (3000 : Nat) ∧ (∀ (i : Nat), i < x.i → (ascR ((eaAV_a s).getD i ⟨#[]⟩)).fst.size ≤ (1000000 : Nat)) ∧ ljF (fun (i : Nat) => (ascR ((eaAV_a s).getD i ⟨#[]⟩)).fst) x.i = (eaR ascR s).fst ∧ (0 : Int) = (eaR ascR s).snd ∧ True)
theorem eaAV_eq (s : ByteArray) : eaAV s = (funC cxea Tryz.f35 (mkSc (eaEn 36 ascR s) (bodyOf Tryz.f35)) [XT s, FN 36] (.tup [XT (eaR ascR s).1, XI (eaR ascR s).2])) := by kernel_rfl
def eaUV_a (s : ByteArray) :=
 (splitS (cutSufB s ⟨#[46]⟩).fst ⟨#[46]⟩)
def eaUV (s : ByteArray) : Prop :=
 s.size ≤ (1000000000 : Nat) ∧ (cutSufB s ⟨#[46]⟩).fst.size ≤ (1000000000 : Nat) ∧ (∃ (x : (eaI (54 : FuncId) uniR s).σ), (x.i ≤ (eaUV_a s).length ∧ eaE uniR (eaUV_a s) x.i = (0 : Int)) ∧ true = true ∧ XV.v (AV.p (Value.func (Fn.func (54 : FuncId)) #[] #[])) = XV.v (AV.p (Value.func (Fn.func (54 : FuncId)) #[] #[])) ∧ XV.sl 0 1 0 0 = XV.sl 0 1 0 x.i ∧ ((XV.fz (eaUV_a s).length 1 fun (i : Nat) => [XT ((eaUV_a s).getD i ⟨#[]⟩)]) = XV.fz (eaUV_a s).length 1 fun (i : Nat) => [XT ((eaUV_a s).getD i ⟨#[]⟩)]) ∧ (↑(eaUV_a s).length : Int) = (↑(eaUV_a s).length : Int) ∧ (0 : Int) = (↑x.i : Int) ∧ (((9 : Nat) = (9 : TypeId) ∧ true = true ∧ (1 : Nat) = (1 : Nat)) ∧ (0 : Nat) = x.i ∧ ∀ (j : Nat), j < (0 : Nat) → [] = [XT ((uniR ((eaUV_a s).getD j ⟨#[]⟩)).fst)]) ∧ True) ∧ ∀ (x : IL), x.i ≤ (eaUV_a s).length ∧ eaE uniR (eaUV_a s) x.i = (0 : Int) → (decide ((↑x.i : Int) < (↑(eaUV_a s).length : Int)) = true → (0 : Int) ≤ (↑x.i : Int) ∧ (↑x.i : Int) < (↑(eaUV_a s).length : Int) ∧ ((eaUV_a s).getD (↑x.i : Int).toNat ⟨#[]⟩).size ≤ (1000000 : Nat) ∧ (((uniR ((eaUV_a s).getD (↑x.i : Int).toNat ⟨#[]⟩)).snd != (0 : Int)) = true → ⟨#[]⟩ = (eaR uniR s).fst ∧ (uniR ((eaUV_a s).getD (↑x.i : Int).toNat ⟨#[]⟩)).snd = (eaR uniR s).snd ∧ True) ∧ (((uniR ((eaUV_a s).getD (↑x.i : Int).toNat ⟨#[]⟩)).snd != (0 : Int)) = false → x.i = x.i ∧ (x.i + (1 : Nat)) * (16 : Nat) ≤ (140737488355328 : Nat) ∧ x.i + (1 : Nat) ≤ (140737488355328 : Nat) ∧ in64 ((↑x.i : Int) + (1 : Int)) ∧ ∃ (x' : (eaI (54 : FuncId) uniR s).σ), (x'.i ≤ (eaUV_a s).length ∧ eaE uniR (eaUV_a s) x'.i = (0 : Int)) ∧ (eaUV_a s).length - x'.i < (eaUV_a s).length - x.i ∧ true = true ∧ XV.v (AV.p (Value.func (Fn.func (54 : FuncId)) #[] #[])) = XV.v (AV.p (Value.func (Fn.func (54 : FuncId)) #[] #[])) ∧ XV.sl 0 1 0 (x.i + (1 : Nat)) = XV.sl 0 1 0 x'.i ∧ ((XV.fz (eaUV_a s).length 1 fun (i : Nat) => [XT ((eaUV_a s).getD i ⟨#[]⟩)]) = XV.fz (eaUV_a s).length 1 fun (i : Nat) => [XT ((eaUV_a s).getD i ⟨#[]⟩)]) ∧ (↑(eaUV_a s).length : Int) = (↑(eaUV_a s).length : Int) ∧ (↑x.i : Int) + (1 : Int) = (↑x'.i : Int) ∧ (((9 : TypeId) = (9 : TypeId) ∧ true = true ∧ (1 : Nat) = (1 : Nat)) ∧ x.i + (1 : Nat) = x'.i ∧ ∀ (j : Nat), j < x.i + (1 : Nat) → [XT (bif j.blt x.i then (uniR ((eaUV_a s).getD j ⟨#[]⟩)).fst else (uniR ((eaUV_a s).getD (↑x.i : Int).toNat ⟨#[]⟩)).fst)] = [XT ((uniR ((eaUV_a s).getD j ⟨#[]⟩)).fst)]) ∧ True)) ∧ (decide ((↑x.i : Int) < (↑(eaUV_a s).length : Int)) = false → x.i = x.i ∧ (∀ (i : Nat), i < x.i → [XT ((uniR ((eaUV_a s).getD i ⟨#[]⟩)).fst)] = [XT ((uniR ((eaUV_a s).getD i ⟨#[]⟩)).fst)]) ∧ x.i ≤ (3000 : Nat) ∧ (∀ (i : Nat), i < x.i → (uniR ((eaUV_a s).getD i ⟨#[]⟩)).fst.size ≤ (1000000 : Nat)) ∧ ljF (fun (i : Nat) => (uniR ((eaUV_a s).getD i ⟨#[]⟩)).fst) x.i = (eaR uniR s).fst ∧ (0 : Int) = (eaR uniR s).snd ∧ True)
theorem eaUV_eq (s : ByteArray) : eaUV s = (funC cxea Tryz.f35 (mkSc (eaEn 54 uniR s) (bodyOf Tryz.f35)) [XT s, FN 54] (.tup [XT (eaR uniR s).1, XI (eaR uniR s).2])) := by kernel_rfl
def eachC : CT := fun args => match args with
 | [x, y] => match strO x, fnO y with
  | some s, some f => match Nat.beq f 36, Nat.beq f 54 with
   | true, _ => some ([s.size ≤ 2000], .tup [XT (eaR ascR s).1, XI (eaR ascR s).2])
   | _, true => some ([s.size ≤ 2000], .tup [XT (eaR uniR s).1, XI (eaR uniR s).2])
   | _, _ => none
  | _, _ => none
 | _ => none
def toA (s : ByteArray) : ByteArray × Int := if s.size > 1012 then (⟨#[]⟩, 2) else if (eaR ascR s).2 = 0 ∧ (eaR ascR s).1.size > 253 then (⟨#[]⟩, 2) else eaR ascR s
def toAC : CT := C1 dStr (fun _ => []) fun s => .tup [XT (toA s).1, XI (toA s).2]
def toAsV (s : ByteArray) : Prop :=
 (decide ((↑s.size : Int) > (1012 : Int)) = true → ⟨#[]⟩ = (toA s).fst ∧ (2 : Int) = (toA s).snd ∧ True) ∧ (decide ((↑s.size : Int) > (1012 : Int)) = false → s.size ≤ (2000 : Nat) ∧ (((eaR ascR s).snd == (0 : Int) && decide ((↑(eaR ascR s).fst.size : Int) > (253 : Int))) = true → ⟨#[]⟩ = (toA s).fst ∧ (2 : Int) = (toA s).snd ∧ True) ∧ (((eaR ascR s).snd == (0 : Int) && decide ((↑(eaR ascR s).fst.size : Int) > (253 : Int))) = false → (eaR ascR s).fst = (toA s).fst ∧ (eaR ascR s).snd = (toA s).snd ∧ True))
theorem toAsV_eq (s : ByteArray) : toAsV s = (funC { cx0 with C := [(35, eachC)] } Tryz.f24 .nil [XT s] (.tup [XT (toA s).1, XI (toA s).2])) := by kernel_rfl
theorem cutSuf_size (s p : ByteArray) : (cutSufB s p).1.size ≤ s.size := by
 unfold cutSufB
 rw [mk8_size, size_data, Lib.trimSuffix]
 split
 ·rw [List.length_take]; omega
 ·exact Nat.le_refl _
theorem labs_size (s : ByteArray) (hs : s.size ≤ 2000) (i : Nat) : ((labs s).getD i ⟨#[]⟩).size ≤ 2000 := by
 rw [List.getD_eq_getElem?_getD]
 cases h : (labs s)[i]? with
 | none => exact Nat.zero_le _
 | some x =>
  have hm : x ∈ labs s := List.mem_of_getElem? h
  have hm : x ∈ splitS (cutSufB s ptT).1 ⟨#[46]⟩ := hm
  rw [splitS_one] at hm
  obtain ⟨y, hy, rfl⟩ := List.mem_map.1 hm
  have h1 := split1_each 46 _ y hy
  have h2 := cutSuf_size s ptT
  rw [← size_data] at h1
  show (mk8 y).size ≤ 2000
  rw [mk8_size]
  omega
theorem eaE_keep (f : ByteArray → ByteArray × Int) (l : List ByteArray) (i : Nat) (h : eaE f l i ≠ 0) : ∀ n, i ≤ n → eaE f l n = eaE f l i
  | 0, hn => by obtain rfl : i = 0 := by omega
                rfl
  | n + 1, hn => by
    by_cases e : i = n + 1
    · rw [e]
    · have ih := eaE_keep f l i h n (by omega)
      rw [eaE, if_pos (by rw [ih]; exact h), ih]
theorem encB_size (o : List Int) : (encB o).size ≤ 4 * o.length := by
 have : ∀ (o : List Int) (a : ByteArray), (o.foldl (fun r n => r ++ Utf8.encode n) a).size ≤ a.size + 4 * o.length := by
  intro o
  induction o with
  | nil => intro a; exact Nat.le_refl _
  | cons x o ih =>
   intro a
   have h1 := ih (a ++ Utf8.encode x)
   have h2 := enc8_size x
   rw [ByteArray.size_append] at h1
   simp only [List.foldl_cons, List.length_cons]
   omega
 have := this o ⟨#[]⟩
 have e : (⟨#[]⟩ : ByteArray).size = 0 := rfl
 unfold encB
 omega
theorem uniR_size (s : ByteArray) : (uniR s).1.size ≤ s.size + 504 := by
 have e : (⟨#[]⟩ : ByteArray).size = 0 := rfl
 have h1 := decR_len (cutPreB s xnT).1
 have h2 := encB_size (decR (cutPreB s xnT).1).1
 rw [uniR]
 split
 ·show s.size ≤ _; omega
 ·split
  ·show (⟨#[]⟩ : ByteArray).size ≤ _; omega
  ·rw [uniL]
   split
   ·show (⟨#[]⟩ : ByteArray).size ≤ _; omega
   ·split
    ·show (⟨#[]⟩ : ByteArray).size ≤ _; omega
    ·show (encB _).size ≤ _; omega
theorem ascR_size (s : ByteArray) : (ascR s).1.size ≤ s.size + 504 := by
 have e : (⟨#[]⟩ : ByteArray).size = 0 := rfl
 have hl := lowT_size s
 rw [ascR, ascS]
 split
 ·split
  ·show (⟨#[]⟩ : ByteArray).size ≤ _; omega
  ·split
   ·show (lowT s).size ≤ _; omega
   ·show (lowT s).size ≤ _; omega
 ·split
  ·show (⟨#[]⟩ : ByteArray).size ≤ _; omega
  ·rw [ascL]
   split
   ·show (⟨#[]⟩ : ByteArray).size ≤ _; omega
   ·split
    ·show (⟨#[]⟩ : ByteArray).size ≤ _; omega
    ·split
     ·show (⟨#[]⟩ : ByteArray).size ≤ _; omega
     ·split
      ·show (⟨#[]⟩ : ByteArray).size ≤ _; omega
      ·rename_i h; show (xnT ++ _).size ≤ _; omega
theorem eaA_v (s : ByteArray) (hs : s.size ≤ 2000) : eaAV s := by
 have h0 := cutSuf_size s ptT
 have hl := splitS_len (cutSufB s ptT).1 46
 have hx : ∀ i, ((labs s).getD i ⟨#[]⟩).size ≤ 2000 := labs_size s hs
 unfold eaAV eaAV_a
 refine ⟨by omega, by show (cutSufB s ptT).1.size ≤ _; omega, ⟨⟨0⟩, ⟨Nat.zero_le _, rfl⟩, rfl, rfl, rfl, rfl, rfl, rfl, ⟨⟨rfl, rfl, rfl⟩, rfl, fun j hj => absurd hj (Nat.not_lt_zero _)⟩, trivial⟩, ?_⟩
 rintro ⟨i⟩ ⟨hi, he⟩
 have hi : i ≤ (labs s).length := hi
 have he : eaE ascR (labs s) i = 0 := he
 have hlen : (labs s).length ≤ 2001 := by show (splitS (cutSufB s ptT).1 ⟨#[46]⟩).length ≤ 2001; omega
 refine ⟨fun h => ?_, fun h => ?_⟩
 ·have h : (i : Int) < (labs s).length := of_decide_eq_true h
  refine ⟨by dsimp only; omega, h, Nat.le_trans (hx i) (by decide), fun h1 => ?_, fun h1 => ?_⟩
  ·have h1 : ((ascR ((labs s).getD i ⟨#[]⟩)).2 != 0) = true := h1
   have h1 : (ascR ((labs s).getD i ⟨#[]⟩)).2 ≠ 0 := by simpa using h1
   have h2 : eaE ascR (labs s) (i + 1) = (ascR ((labs s).getD i ⟨#[]⟩)).2 := by rw [eaE, if_neg (by rw [he]; simp)]
   have h3 : eaE ascR (labs s) (labs s).length = eaE ascR (labs s) (i + 1) := eaE_keep _ _ (i + 1) (by rw [h2]; exact h1) _ (by omega)
   exact pair_eq (show eaR ascR s = (⟨#[]⟩, (ascR ((labs s).getD i ⟨#[]⟩)).2) by rw [eaR, h3, h2, if_pos h1])
  ·have h1 : ((ascR ((labs s).getD i ⟨#[]⟩)).2 != 0) = false := h1
   have h1 : (ascR ((labs s).getD i ⟨#[]⟩)).2 = 0 := by simpa using h1
   refine ⟨rfl, by dsimp only; omega, by dsimp only; omega, by unfold in64; dsimp only; omega, ⟨i + 1⟩, ⟨by show i + 1 ≤ (labs s).length; omega, by show eaE ascR (labs s) (i + 1) = 0; rw [eaE, if_neg (by rw [he]; simp), h1]⟩, by show (labs s).length - (i + 1) < (labs s).length - i; omega, rfl, rfl, rfl, rfl, rfl, rfl, ⟨⟨rfl, rfl, rfl⟩, rfl, fun j hj => ?_⟩, trivial⟩
   dsimp only at hj ⊢
   rw [bltN]
   by_cases e : j < i
   ·rw [decide_eq_true e]; rfl
   ·obtain rfl : j = i := by omega
    rw [decide_eq_false e]; rfl
 ·have h : ¬ (i : Int) < (labs s).length := of_decide_eq_false h
  obtain rfl : i = (labs s).length := by omega
  exact ⟨rfl, fun _ _ => rfl, by dsimp only; omega, fun i _ => Nat.le_trans (ascR_size ((labs s).getD i ⟨#[]⟩)) (by have := hx i; omega), pair_eq (show eaR ascR s = (ljF (fun j => (ascR ((labs s).getD j ⟨#[]⟩)).1) (labs s).length, 0) by rw [eaR, if_neg (by rw [he]; simp)])⟩
theorem eaU_v (s : ByteArray) (hs : s.size ≤ 2000) : eaUV s := by
 have h0 := cutSuf_size s ptT
 have hl := splitS_len (cutSufB s ptT).1 46
 have hx : ∀ i, ((labs s).getD i ⟨#[]⟩).size ≤ 2000 := labs_size s hs
 unfold eaUV eaUV_a
 refine ⟨by omega, by show (cutSufB s ptT).1.size ≤ _; omega, ⟨⟨0⟩, ⟨Nat.zero_le _, rfl⟩, rfl, rfl, rfl, rfl, rfl, rfl, ⟨⟨rfl, rfl, rfl⟩, rfl, fun j hj => absurd hj (Nat.not_lt_zero _)⟩, trivial⟩, ?_⟩
 rintro ⟨i⟩ ⟨hi, he⟩
 have hi : i ≤ (labs s).length := hi
 have he : eaE uniR (labs s) i = 0 := he
 have hlen : (labs s).length ≤ 2001 := by show (splitS (cutSufB s ptT).1 ⟨#[46]⟩).length ≤ 2001; omega
 refine ⟨fun h => ?_, fun h => ?_⟩
 ·have h : (i : Int) < (labs s).length := of_decide_eq_true h
  refine ⟨by dsimp only; omega, h, Nat.le_trans (hx i) (by decide), fun h1 => ?_, fun h1 => ?_⟩
  ·have h1 : ((uniR ((labs s).getD i ⟨#[]⟩)).2 != 0) = true := h1
   have h1 : (uniR ((labs s).getD i ⟨#[]⟩)).2 ≠ 0 := by simpa using h1
   have h2 : eaE uniR (labs s) (i + 1) = (uniR ((labs s).getD i ⟨#[]⟩)).2 := by rw [eaE, if_neg (by rw [he]; simp)]
   have h3 : eaE uniR (labs s) (labs s).length = eaE uniR (labs s) (i + 1) := eaE_keep _ _ (i + 1) (by rw [h2]; exact h1) _ (by omega)
   exact pair_eq (show eaR uniR s = (⟨#[]⟩, (uniR ((labs s).getD i ⟨#[]⟩)).2) by rw [eaR, h3, h2, if_pos h1])
  ·have h1 : ((uniR ((labs s).getD i ⟨#[]⟩)).2 != 0) = false := h1
   have h1 : (uniR ((labs s).getD i ⟨#[]⟩)).2 = 0 := by simpa using h1
   refine ⟨rfl, by dsimp only; omega, by dsimp only; omega, by unfold in64; dsimp only; omega, ⟨i + 1⟩, ⟨by show i + 1 ≤ (labs s).length; omega, by show eaE uniR (labs s) (i + 1) = 0; rw [eaE, if_neg (by rw [he]; simp), h1]⟩, by show (labs s).length - (i + 1) < (labs s).length - i; omega, rfl, rfl, rfl, rfl, rfl, rfl, ⟨⟨rfl, rfl, rfl⟩, rfl, fun j hj => ?_⟩, trivial⟩
   dsimp only at hj ⊢
   rw [bltN]
   by_cases e : j < i
   ·rw [decide_eq_true e]; rfl
   ·obtain rfl : j = i := by omega
    rw [decide_eq_false e]; rfl
 ·have h : ¬ (i : Int) < (labs s).length := of_decide_eq_false h
  obtain rfl : i = (labs s).length := by omega
  exact ⟨rfl, fun _ _ => rfl, by dsimp only; omega, fun i _ => Nat.le_trans (uniR_size ((labs s).getD i ⟨#[]⟩)) (by have := hx i; omega), pair_eq (show eaR uniR s = (ljF (fun j => (uniR ((labs s).getD j ⟨#[]⟩)).1) (labs s).length, 0) by rw [eaR, if_neg (by rw [he]; simp)])⟩
theorem cxea_ok : cxea.ok Tryz.prog := ((((cx0_ok.addC uni_ok).addC asc_ok).addC ljn_ok).addC lsp_ok).addC cutSuf_ok
theorem each_ok : CTok Tryz.prog 35 eachC := ct_ok cxea_ok Tryz.func35 rfl (by decide) fun args cs v hC hc => by
 unfold eachC at hC
 split at hC
 ·rename_i x y
  split at hC
  ·rename_i s f hs hf
   have e1 := strO_eq hs
   have e2 := fnO_eq hf
   subst e1 e2
   split at hC
   ·rename_i hb
    rw [beqN, decide_eq_true_eq] at hb
    subst hb
    simp only [Option.some.injEq, Prod.mk.injEq] at hC
    obtain ⟨rfl, rfl⟩ := hC
    exact ⟨by kernel_rfl, rfl, rfl, exv (eaAV_eq s) (eaA_v s (hc _ (by simp)))⟩
   ·rename_i hb _
    rw [beqN, decide_eq_true_eq] at hb
    subst hb
    simp only [Option.some.injEq, Prod.mk.injEq] at hC
    obtain ⟨rfl, rfl⟩ := hC
    exact ⟨by kernel_rfl, rfl, rfl, exv (eaUV_eq s) (eaU_v s (hc _ (by simp)))⟩
   ·cases hC
  ·cases hC
 ·cases hC
theorem toAs_v (s : ByteArray) : toAsV s := by
 unfold toAsV
 refine ⟨fun h => ?_, fun h => ?_⟩
 ·have h : (s.size : Int) > 1012 := of_decide_eq_true h
  exact pair_eq (by rw [toA, if_pos (by omega)])
 ·have h : ¬ (s.size : Int) > 1012 := of_decide_eq_false h
  refine ⟨by omega, fun h2 => ?_, fun h2 => ?_⟩
  ·simp only [Bool.and_eq_true, beq_iff_eq, decide_eq_true_eq] at h2
   exact pair_eq (by rw [toA, if_neg (by omega), if_pos ⟨h2.1, by omega⟩])
  ·have h3 : toA s = eaR ascR s := by
    rw [toA, if_neg (by omega), if_neg]
    rintro ⟨a, b⟩
    rw [a] at h2
    simp only [beq_self_eq_true, Bool.true_and, decide_eq_false_iff_not] at h2
    omega
   rw [h3]
   exact ⟨rfl, rfl, trivial⟩
theorem toA_ok : CTok Tryz.prog 24 toAC := C1_ok (cx0_ok.addC each_ok) Tryz.func24 rfl (by decide) dStr_eq.ok (by kernel_rfl) (fun _ => rfl) fun s hc => exv (toAsV_eq s) (toAs_v s)
end Go.Proofs.YtkjcoehblekpdaaGreatDoorAv
namespace Go.Proofs.YtkjcoehblekpdaaGreatDoorAv
open Go Go.RowKit
def dotC : CT := C1 dStr (fun _ => []) fun s => XI (cntB s ptT)
def cxg : Cx := { cx0 with C := [(29, cntC), (49, lspC)] }
def dotV (s : ByteArray) : Prop :=
 (1 : Nat) = (1 : Nat) ∧ cntB s ⟨#[46]⟩ = cntB s ⟨#[46]⟩
theorem dotV_eq (s : ByteArray) : dotV s = (funC cxg Tryz.f20 .nil [XT s] (XI (cntB s ptT))) := by kernel_rfl
theorem dot_v (s : ByteArray) : dotV s := by
 unfold dotV
 exact ⟨rfl, rfl⟩
theorem dot_ok : CTok Tryz.prog 20 dotC := C1_ok ((cx0_ok.addC lsp_ok).addC cnt_ok) Tryz.func20 rfl (by decide) dStr_eq.ok (by kernel_rfl) (fun _ => rfl) fun s hc => exv (dotV_eq s) (dot_v s)
end Go.Proofs.YtkjcoehblekpdaaGreatDoorAv
namespace Go.Proofs.YtkjcoehblekpdaaGreatDoorAv
open Go Go.RowKit
def cxw : Cx := { cx0 with C := [(31, cutC), (21, splitC), (32, replC)] }
theorem cxw_ok : cxw.ok Tryz.prog := ((cx0_ok.addC repl_ok).addC split_ok).addC cut_ok
def isNE (s : ByteArray) : Bool := !(decide (s = ⟨#[]⟩))
def wPieces (s : ByteArray) : List ByteArray := splitS (replB (cutB s ⟨#[35]⟩).1 ⟨#[9]⟩ ⟨#[32]⟩) ⟨#[32]⟩
def words (s : ByteArray) : List ByteArray := (wPieces s).filter isNE
def rowS (l : List ByteArray) : Nat → List XV := fun i => [XT (l.getD i ⟨#[]⟩)]
def fieldsC : CT := C1 dStr (fun s => [s.size ≤ 1000000]) fun s => strsL (words s)
def fldI (l : List ByteArray) : Inv where
 σ := IL
 S := fun x => ⟨[(3, .sl 0 1 0 ((l.take x.i).filter isNE).length), (14, strsL l), (15, XI l.length), (16, XI x.i)], [(0, .vec 9 true ((l.take x.i).filter isNE).length 1 (rowS ((l.take x.i).filter isNE)))], 1, false, []⟩
 inv := fun x => x.i ≤ l.length
 μ := fun x => l.length - x.i
def fldE (s : ByteArray) : Env := { loops := [(0, fldI (wPieces s))], own := [(3, [(3, 9, 1)])] }
def fldV_a (s : ByteArray) (x : IL) :=
 (List.filter isNE (List.take x.i (wPieces s)))
def fldV_b (s : ByteArray) :=
 (replB (cutB s ⟨#[35]⟩).fst ⟨#[9]⟩ ⟨#[32]⟩)
def fldV (s : ByteArray) : Prop :=
 s.size < (4294967281 : Nat) ∧ (cutB s ⟨#[35]⟩).fst.size ≤ (1000000000 : Nat) ∧ (1 : Nat) ≤ (1 : Nat) ∧ (1 : Nat) ≤ (1000 : Nat) ∧ (fldV_b s).size < (4294967281 : Nat) ∧ (1 : Nat) ≤ (1 : Nat) ∧ (∃ (x : (fldI (wPieces s)).σ), x.i.le (wPieces s).length ∧ true = true ∧ XV.sl 0 1 0 0 = XV.sl 0 1 0 (List.filter isNE (List.take x.i (wPieces s))).length ∧ ((XV.fz (splitS (fldV_b s) ⟨#[32]⟩).length 1 fun (i : Nat) => [XT ((splitS (fldV_b s) ⟨#[32]⟩).getD i ⟨#[]⟩)]) = XV.fz (wPieces s).length 1 fun (i : Nat) => [XT ((wPieces s).getD i ⟨#[]⟩)]) ∧ (↑(splitS (fldV_b s) ⟨#[32]⟩).length : Int) = (↑(wPieces s).length : Int) ∧ (0 : Int) = (↑x.i : Int) ∧ (((9 : Nat) = (9 : TypeId) ∧ true = true ∧ (1 : Nat) = (1 : Nat)) ∧ (0 : Nat) = (List.filter isNE (List.take x.i (wPieces s))).length ∧ ∀ (j : Nat), j < (0 : Nat) → [] = [XT ((List.filter isNE (List.take x.i (wPieces s))).getD j ⟨#[]⟩)]) ∧ True) ∧ ∀ (x : IL), x.i.le (wPieces s).length → (decide ((↑x.i : Int) < (↑(wPieces s).length : Int)) = true → (0 : Int) ≤ (↑x.i : Int) ∧ (↑x.i : Int) < (↑(wPieces s).length : Int) ∧ ((!decide ((wPieces s).getD (↑x.i : Int).toNat ⟨#[]⟩ = ⟨#[]⟩)) = true → (fldV_a s x).length = (fldV_a s x).length ∧ ((fldV_a s x).length + (1 : Nat)) * (16 : Nat) ≤ (140737488355328 : Nat) ∧ (fldV_a s x).length + (1 : Nat) ≤ (140737488355328 : Nat) ∧ in64 ((↑x.i : Int) + (1 : Int)) ∧ ∃ (x' : (fldI (wPieces s)).σ), x'.i.le (wPieces s).length ∧ (wPieces s).length - x'.i < (wPieces s).length - x.i ∧ true = true ∧ XV.sl 0 1 0 ((fldV_a s x).length + (1 : Nat)) = XV.sl 0 1 0 (List.filter isNE (List.take x'.i (wPieces s))).length ∧ ((XV.fz (wPieces s).length 1 fun (i : Nat) => [XT ((wPieces s).getD i ⟨#[]⟩)]) = XV.fz (wPieces s).length 1 fun (i : Nat) => [XT ((wPieces s).getD i ⟨#[]⟩)]) ∧ (↑(wPieces s).length : Int) = (↑(wPieces s).length : Int) ∧ (↑x.i : Int) + (1 : Int) = (↑x'.i : Int) ∧ (((9 : TypeId) = (9 : TypeId) ∧ true = true ∧ (1 : Nat) = (1 : Nat)) ∧ (fldV_a s x).length + (1 : Nat) = (List.filter isNE (List.take x'.i (wPieces s))).length ∧ ∀ (j : Nat), j < (fldV_a s x).length + (1 : Nat) → [XT (bif j.blt (fldV_a s x).length then (fldV_a s x).getD j ⟨#[]⟩ else (wPieces s).getD (↑x.i : Int).toNat ⟨#[]⟩)] = [XT ((List.filter isNE (List.take x'.i (wPieces s))).getD j ⟨#[]⟩)]) ∧ True) ∧ ((!decide ((wPieces s).getD (↑x.i : Int).toNat ⟨#[]⟩ = ⟨#[]⟩)) = false → in64 ((↑x.i : Int) + (1 : Int)) ∧ ∃ (x' : (fldI (wPieces s)).σ), x'.i.le (wPieces s).length ∧ (wPieces s).length - x'.i < (wPieces s).length - x.i ∧ true = true ∧ XV.sl 0 1 0 (fldV_a s x).length = XV.sl 0 1 0 (List.filter isNE (List.take x'.i (wPieces s))).length ∧ ((XV.fz (wPieces s).length 1 fun (i : Nat) => [XT ((wPieces s).getD i ⟨#[]⟩)]) = XV.fz (wPieces s).length 1 fun (i : Nat) => [XT ((wPieces s).getD i ⟨#[]⟩)]) ∧ (↑(wPieces s).length : Int) = (↑(wPieces s).length : Int) ∧ (↑x.i : Int) + (1 : Int) = (↑x'.i : Int) ∧ (((9 : TypeId) = (9 : TypeId) ∧ true = true ∧ (1 : Nat) = (1 : Nat)) ∧ (fldV_a s x).length = (List.filter isNE (List.take x'.i (wPieces s))).length ∧ ∀ (j : Nat), j < (fldV_a s x).length → [XT ((fldV_a s x).getD j ⟨#[]⟩)] = [XT ((List.filter isNE (List.take x'.i (wPieces s))).getD j ⟨#[]⟩)]) ∧ True)) ∧ (decide ((↑x.i : Int) < (↑(wPieces s).length : Int)) = false → ((1 : Nat) = (1 : Nat) ∧ (1 : Nat) = (1 : Nat)) ∧ (fldV_a s x).length = (fldV_a s x).length ∧ (fldV_a s x).length = (words s).length ∧ ∀ (j : Nat), j < (fldV_a s x).length → [XT ((fldV_a s x).getD j ⟨#[]⟩)] = [XT ((words s).getD j ⟨#[]⟩)])
theorem fldV_eq (s : ByteArray) : fldV s = (funC cxw Tryz.f22 (mkSc (fldE s) (bodyOf Tryz.f22)) [XT s] (strsL (words s))) := by kernel_rfl
theorem row_app1 {α : Type} (l : List α) (x d : α) (j : Nat) (h : j < l.length + 1) : (bif j.blt l.length then l.getD j d else x) = (l ++ [x]).getD j d := by
 rw [bltN]
 by_cases hj : j < l.length
 ·rw [decide_eq_true hj, cond_true, List.getD_eq_getElem?_getD, List.getD_eq_getElem?_getD, List.getElem?_append_left hj]
 ·rw [decide_eq_false hj, cond_false, List.getD_eq_getElem?_getD, List.getElem?_append_right (by omega), show j - l.length = 0 by omega]
  rfl
theorem fld_v (s : ByteArray) (hs : s.size ≤ 1000000) : fldV s := by
 have h1 := cutB_size s 35
 have h2 : (replB (cutB s ⟨#[35]⟩).1 ⟨#[9]⟩ ⟨#[32]⟩).size ≤ 1 * (cutB s ⟨#[35]⟩).1.size := replB_size _ ⟨#[32]⟩ 9 1 (by decide) (by decide)
 have h3 : (wPieces s).length ≤ (replB (cutB s ⟨#[35]⟩).1 ⟨#[9]⟩ ⟨#[32]⟩).size + 1 := splitS_len _ 32
 have hfl : ∀ i, ((wPieces s).take i |>.filter isNE).length ≤ 1000001 := fun i => by
  have := List.length_filter_le isNE ((wPieces s).take i)
  rw [List.length_take] at this
  omega
 unfold fldV fldV_b fldV_a
 refine ⟨by omega, by omega, by omega, by omega, by omega, by omega, ⟨⟨0⟩, Nat.zero_le _, by and_intros <;> first | rfl | trivial | exact fun j hj => absurd hj (by omega)⟩, ?_⟩
 intro x hx
 refine ⟨fun h => ?_, fun h => ?_⟩
 ·have hlt : x.i < (wPieces s).length := by simpa using h
  have ht := take_snoc' (wPieces s) x.i ⟨#[]⟩ hlt
  have hb := hfl x.i
  refine ⟨by omega, by omega, fun h2 => ⟨rfl, by omega, by omega, ⟨by omega, by omega⟩, ⟨x.i + 1⟩, hlt, ?_⟩, fun h2 => ⟨⟨by omega, by omega⟩, ⟨x.i + 1⟩, hlt, ?_⟩⟩
  ·have e : (((wPieces s).take (x.i + 1)).filter isNE) = ((wPieces s).take x.i).filter isNE ++ [(wPieces s).getD x.i ⟨#[]⟩] := by
    rw [ht, List.filter_append, List.filter_cons]
    have : isNE ((wPieces s).getD x.i ⟨#[]⟩) = true := h2
    rw [if_pos this]
    rfl
   refine ⟨by show (wPieces s).length - (x.i + 1) < _; omega, ?_⟩
   and_intros
   all_goals first | rfl | trivial | skip
   ·show _ = XV.sl 0 1 0 (((wPieces s).take (x.i + 1)).filter isNE).length
    rw [e, List.length_append]; rfl
   ·show _ = (((wPieces s).take (x.i + 1)).filter isNE).length
    rw [e, List.length_append]; rfl
   ·intro j hj
    show _ = [XT ((((wPieces s).take (x.i + 1)).filter isNE).getD j ⟨#[]⟩)]
    rw [e]
    exact congrArg (fun s => [XT s]) (row_app1 _ _ _ j hj)
  ·have e : (((wPieces s).take (x.i + 1)).filter isNE) = ((wPieces s).take x.i).filter isNE := by
    rw [ht, List.filter_append, List.filter_cons]
    have : isNE ((wPieces s).getD x.i ⟨#[]⟩) = false := h2
    rw [if_neg (by rw [this]; simp)]
    simp
   refine ⟨by show (wPieces s).length - (x.i + 1) < _; omega, ?_⟩
   show _ ∧ _ = XV.sl 0 1 0 (((wPieces s).take (x.i + 1)).filter isNE).length ∧ _
   rw [e]
   and_intros
   all_goals first | rfl | trivial | exact fun j hj => rfl
 ·have hge : x.i = (wPieces s).length := by
   have : ¬ x.i < (wPieces s).length := by simpa using h
   have : x.i ≤ (wPieces s).length := hx
   omega
  rw [hge, List.take_length]
  exact ⟨⟨rfl, rfl⟩, rfl, rfl, fun j hj => rfl⟩
theorem fld_ok : CTok Tryz.prog 22 fieldsC := C1_ok cxw_ok Tryz.func22 rfl (by decide) dStr_eq.ok (by kernel_rfl) (fun _ => rfl) fun s hc => exv (fldV_eq s) (fld_v s (hc _ (by simp)))
def hasF (g : Nat → ByteArray) (s : ByteArray) : Nat → Bool
 | 0 => false
 | i + 1 => hasF g s i || decide (g i = s)
abbrev sqT (q : Sq ByteArray) : XV := .fz q.n 1 fun i => [XT (q.g i)]
def hasI (q : Sq ByteArray) (s : ByteArray) : Inv where
 σ := IL
 S := fun x => ⟨[(1, XT s), (7, sqT q), (8, XI q.n), (9, XI x.i)], [], 0, false, []⟩
 inv := fun x => x.i ≤ q.n ∧ hasF q.g s x.i = false
 μ := fun x => q.n - x.i
def hasE (q : Sq ByteArray) (s : ByteArray) : Env := { loops := [(0, hasI q s)] }
def hasV (q : Sq ByteArray) (s : ByteArray) : Prop :=
 (∃ (x : (hasI q s).σ), (x.i ≤ q.n ∧ hasF q.g s x.i = false) ∧ true = true ∧ s = s ∧ (XV.fz q.n 1 fun (i : Nat) => [XT (q.g i)]) = sqT q ∧ (↑q.n : Int) = (↑q.n : Int) ∧ (0 : Int) = (↑x.i : Int) ∧ True) ∧ ∀ (x : IL), x.i ≤ q.n ∧ hasF q.g s x.i = false → (decide ((↑x.i : Int) < (↑q.n : Int)) = true → (0 : Int) ≤ (↑x.i : Int) ∧ (↑x.i : Int) < (↑q.n : Int) ∧ (decide (q.g (↑x.i : Int).toNat = s) = true → true = hasF q.g s q.n) ∧ (decide (q.g (↑x.i : Int).toNat = s) = false → in64 ((↑x.i : Int) + (1 : Int)) ∧ ∃ (x' : (hasI q s).σ), (x'.i ≤ q.n ∧ hasF q.g s x'.i = false) ∧ q.n - x'.i < q.n - x.i ∧ true = true ∧ s = s ∧ (XV.fz q.n 1 fun (i : Nat) => [XT (q.g i)]) = sqT q ∧ (↑q.n : Int) = (↑q.n : Int) ∧ (↑x.i : Int) + (1 : Int) = (↑x'.i : Int) ∧ True)) ∧ (decide ((↑x.i : Int) < (↑q.n : Int)) = false → false = hasF q.g s q.n)
theorem hasV_eq (q : Sq ByteArray) (s : ByteArray) : hasV q s = (funC cx0 Tryz.f15 (mkSc (hasE q s) (bodyOf Tryz.f15)) [sqT q, XT s] (XB (hasF q.g s q.n))) := by kernel_rfl
theorem hasF_mono (g : Nat → ByteArray) (s : ByteArray) (n i : Nat) (h : i ≤ n) (k : hasF g s i = true) : hasF g s n = true := by
  induction n with
  | zero => obtain rfl : i = 0 := by omega
            exact k
  | succ n ih =>
    by_cases e : i = n + 1
    · rw [← e]; exact k
    · rw [hasF, ih (by omega)]; rfl
theorem has_v (q : Sq ByteArray) (s : ByteArray) (hq : q.n ≤ 1000000) : hasV q s := by
 unfold hasV
 refine ⟨⟨⟨0⟩, ⟨Nat.zero_le _, rfl⟩, by and_intros <;> first | rfl | trivial⟩, ?_⟩
 rintro ⟨i⟩ ⟨hi, h0⟩
 have hi : i ≤ q.n := hi
 have h0 : hasF q.g s i = false := h0
 dsimp only
 refine ⟨fun h => ?_, fun h => ?_⟩
 ·have hlt : (i : Int) < q.n := of_decide_eq_true h
  refine ⟨by omega, by omega, fun h2 => ?_, fun h2 => ⟨⟨by omega, by omega⟩, ⟨i + 1⟩, ⟨by show i + 1 ≤ q.n; omega, ?_⟩, by show q.n - (i + 1) < q.n - i; omega, by and_intros <;> first | rfl | trivial⟩⟩
  ·refine (hasF_mono q.g s q.n (i + 1) (by omega) ?_).symm
   rw [hasF, h0]
   exact h2
  ·show hasF q.g s (i + 1) = false
   rw [hasF, h0]
   exact h2
 ·have hge : ¬ (i : Int) < q.n := of_decide_eq_false h
  obtain rfl : i = q.n := by omega
  exact h0.symm
def hasC : CT := C2 dStrs dStr (fun q _ => [q.n ≤ 1000000]) fun q s => XB (hasF q.g s q.n)
theorem has_ok : CTok Tryz.prog 15 hasC := C2_ok cx0_ok Tryz.func15 rfl (by decide) dSl_ok dStr_eq.ok (by kernel_rfl) (fun _ _ => rfl) fun q s hc => exv (hasV_eq q s) (has_v q s (hc _ (.head _)))
end Go.Proofs.YtkjcoehblekpdaaGreatDoorAv
namespace Go.Proofs.YtkjcoehblekpdaaGreatDoorAv
open Go Go.RowKit
def hasSufB (s p : ByteArray) : Bool := Lib.hasSuffix s.data.toList p.data.toList
def hasSufC : CT := C2 dStr dStr (fun s _ => [s.size ≤ 1000000000]) fun s p => XB (hasSufB s p)
theorem hasSuf_ok : CTok Tryz.prog 40 hasSufC := by
 refine ct_str2 Tryz.func40 rfl (by decide) (fun a b => by simp [XV.pd]) fun s p hc L w hg hfr => ?_
 have h0 : s.size ≤ 1000000000 := hc _ (by simp)
 refine (Tryz.strings_HasSuffix s p w (by omega)).mono fun e w' ⟨he, hw⟩ => ⟨_, he, ?_, Below.same' hw⟩
 simp [toAV, VS, hasSufB]
theorem glb_tab {L : GH} {w : World} {P : Program} (hg : Glb L w) {name : String} {g : Nat} {k : IntKind} {zs : List Int} {vs : List GV} (hn : P.globalNamed name = some g) (hm : (g, vs) ∈ glbT) (hv : vs = zs.map fun z => GV.val (.int k z)) : Lib.TabIs P w name k zs := by
 obtain ⟨-, -, h, c, e, fr, hh, hs⟩ := hg g vs hm
 unfold Lib.TabIs World.var?
 rw [hn]
 simp only [Option.bind_some, hh, Option.some.injEq]
 apply Array.ext'
 apply List.ext_getElem?
 intro i
 subst hv
 rw [List.length_map] at hs
 rcases Nat.lt_or_ge i zs.length with hi | hi
 ·obtain ⟨x, hx, hi', -⟩ := h i (.val (.int k zs[i])) (by rw [List.getElem?_map, List.getElem?_eq_getElem hi]; rfl)
  unfold World.cell? at hx
  simp only [hh] at hx
  rw [Array.getElem?_toList]
  have hx : c[i]? = some x := hx
  rw [hx, List.getElem?_map, List.getElem?_eq_getElem hi]
  have hi' : x = .int k zs[i] := hi'
  rw [hi']
  rfl
 ·rw [List.getElem?_eq_none (by rw [Array.length_toList]; omega), List.getElem?_eq_none (by simpa using hi)]
def itoaB (n : Int) : ByteArray := mk8 (Lib.itoa n)
def itoaC : CT := C1 dInt (fun n => [0 ≤ n, n ≤ 1000000]) fun n => XT (itoaB n)
theorem pow10_glb {L : GH} {w : World} (hg : Glb L w) : Lib.TabIs Tryz.prog w "internal/strconv.uint64pow10" .u64 Lib.pow10Tab := by
 refine glb_tab (g := 3) hg (by kernel_rfl) (by unfold glbT; repeat first | exact List.Mem.head _ | refine List.Mem.tail _ ?_) (by kernel_rfl)
theorem itoa_ok : CTok Tryz.prog 25 itoaC := by
 refine ct_lib Tryz.func25 rfl (by decide) fun args cs v hC hc => ?_
 unfold itoaC C1 at hC
 split at hC
 ·rename_i x
  split at hC
  ·rename_i p n hx
   obtain ⟨rfl, rfl⟩ := dInt_dec hx
   simp only [List.nil_append, Option.some.injEq, Prod.mk.injEq] at hC
   obtain ⟨rfl, rfl⟩ := hC
   refine ⟨rfl, rfl, fun L w xs hg hfr hv => ?_⟩
   have h0 : 0 ≤ n := hc _ (by simp)
   have h1 : n ≤ 1000000 := hc _ (by simp)
   have := VSL_map_p (l := [.int .i64 n]) (xs := xs) (show VSL L w [AV.p (.int .i64 n)] xs from hv)
   subst this
   refine (Tryz.strconv_Itoa n (by omega) (by omega) w (pow10_glb hg)).mono fun e w' ⟨he, k, os, hw⟩ => ⟨_, he, by simp [toAV, VS, itoaB, mk8], by rw [hw]; exact Lib.below_grow w.heap.size w (Nat.le_refl _) k os⟩
  ·cases hC
 ·cases hC
def joinB (l : List ByteArray) (sep : ByteArray) : ByteArray := mk8 (Lib.join (l.map (·.data.toList)) sep.data.toList)
theorem intercalate_len (sep : List UInt8) (k : Nat) : ∀ l : List (List UInt8), (∀ x ∈ l, x.length ≤ k) → (sep.intercalate l).length ≤ l.length * (k + sep.length)
 | [], _ => by simp [List.intercalate]
 | [x], h => by
  have := h x (by simp)
  simp [List.intercalate]
  omega
 | x :: y :: l, h => by
  have h1 := h x (by simp)
  have ih := intercalate_len sep k (y :: l) (fun z hz => h z (by simp [hz]))
  have e : sep.intercalate (x :: y :: l) = x ++ (sep ++ sep.intercalate (y :: l)) := by simp [List.intercalate]
  rw [e, List.length_append, List.length_append, List.length_cons, Nat.add_mul, Nat.one_mul]
  omega
def joinC : CT := C2 dStrs dStr (fun q s => [q.n ≤ 1000, ∀ i, i < q.n → (q.g i).size ≤ 1000000, s.size ≤ 1000]) fun q s => XT (joinB ((List.range q.n).map q.g) s)
theorem join_ok : CTok Tryz.prog 39 joinC := by
 refine ct_lib2 Tryz.func39 rfl (by decide) dSl_ok dStr_eq.ok (fun _ _ => rfl) fun q s hc L w x y hg hfr hx hy => ?_
 have h0 : q.n ≤ 1000 := hc _ (by simp)
 have h1 : ∀ i, i < q.n → (q.g i).size ≤ 1000000 := hc _ (by simp)
 have h2 : s.size ≤ 1000 := hc _ (by simp)
 have hy : y = .string s := hy
 subst hy
 have hx : VS L w (.fz q.n (vecOf q.n 1 fun i => toAVL [XT (q.g i)])) x := hx
 simp only [VS] at hx
 obtain ⟨a, cap, vs, rfl, hle, hc', hvs⟩ := hx
 have e : (vecOf q.n 1 fun i => toAVL [XT (q.g i)]) = ((List.range q.n).map q.g).map fun s => .p (Value.string s) := by
  unfold vecOf
  rw [Nat.mul_one, List.map_map]
  apply List.map_congr_left
  intro i _
  simp [Nat.mod_one, toAVL, toAV]
 rw [e] at hvs
 have hv := VSL.of_p (fun s : ByteArray => Value.string s) _ vs hvs
 have hlen : ((List.range q.n).map q.g).length = q.n := by simp
 have out : ∀ w', VS L w' (toAV (XT (joinB ((List.range q.n).map q.g) s))) (.string ⟨(Lib.join (((List.range q.n).map q.g).map (·.data.toList)) s.data.toList).toArray⟩) := fun w' => by simp [toAV, VS, joinB, mk8]
 by_cases h00 : q.n = 0
 ·rw [h00]
  refine (Tryz.strings_Join_none a cap s w).mono fun e w' ⟨he, hw⟩ => ⟨_, he, ?_, Below.same' hw⟩
  have := out w'
  rw [h00] at this
  exact this
 ·rcases hc' with hc' | ⟨ad, rfl, _, _, hc'⟩
  ·rw [hc'] at hv
   have := congrArg List.length hv
   rw [List.length_map, hlen] at this
   exact absurd this.symm h00
  ·have hcell : ∀ (j : Nat) z, ((List.range q.n).map q.g)[j]? = some z → w.cell? (ad.add j) = some (.string z) := fun j z hz => hc' j _ (by rw [hv, List.getElem?_map, hz]; rfl)
   obtain ⟨b, o, sp⟩ := ad
   have h01 : ∃ z, w.cell? ⟨b, o, sp⟩ = some z := by
    have := hcell 0 (q.g 0) (by rw [List.getElem?_map, List.getElem?_range (by omega)]; rfl)
    exact ⟨_, this⟩
   obtain ⟨z, hz⟩ := h01
   have hb : b < w.heap.size := by
    refine Nat.lt_of_not_le fun hle => ?_
    unfold World.cell? at hz
    simp only [Array.getElem?_eq_none hle] at hz
    cases hz
   have hsp : sp = none := by
    unfold World.cell? at hz
    cases hh : w.heap[b]? with
    | none => simp only [hh] at hz; cases hz
    | some ob =>
     simp only [hh] at hz
     cases ob with
     | cells c e fr =>
      cases sp with
      | none => rfl
      | some _ => simp at hz
     | _ => simp at hz
   subst hsp
   have hj : (Lib.join (((List.range q.n).map q.g).map (·.data.toList)) s.data.toList).length ≤ 140737488355328 := by
    have h4 := intercalate_len s.data.toList 1000000 (((List.range q.n).map q.g).map (·.data.toList)) (fun x hx => by
     rw [List.map_map] at hx
     obtain ⟨i, hi, rfl⟩ := List.mem_map.1 hx
     have h5 := h1 i (List.mem_range.1 hi)
     rw [size_data] at h5
     show (q.g i).data.toList.length ≤ 1000000
     exact h5)
    rw [List.length_map, hlen, ← size_data] at h4
    have h3 : q.n * (1000000 + s.size) ≤ 1000 * (1000000 + 1000) := Nat.mul_le_mul h0 (by omega)
    unfold Lib.join
    omega
   have J := Tryz.strings_Join b o cap ((List.range q.n).map q.g) s w (fun j z hz => (add_plain b o j) ▸ hcell j z hz) hb (by omega) (by omega) hj
   rw [hlen] at J
   exact J.mono fun e w' ⟨he, hw⟩ => ⟨_, he, out w', hw⟩
end Go.Proofs.YtkjcoehblekpdaaGreatDoorAv
namespace Go.Proofs.YtkjcoehblekpdaaGreatDoorAv
open Go Go.RowKit
abbrev XU (i : Int) : XV := .v (.p (.int .u64 i))
def ipC : CT := fun args => match args with
 | [.v (.p (.int .i64 x))] => some ([x = 16], XB true)
 | _ => none
def ipV  : Prop :=
 in64 ((16 : Int) - (1 : Int)) ∧ (bits BinOp.and IntKind.i64 16 ((16 : Int) - (1 : Int)) == (0 : Int)) = true
theorem ipV_eq  : ipV  = (funC cx0 Tryz.f80 .nil [XI 16] (XB true)) := by kernel_rfl
theorem ip_v : ipV := by
 unfold ipV
 exact ⟨by unfold in64; omega, by kernel_rfl⟩
theorem ip_ok : CTok Tryz.prog 80 ipC := ct_ok2 cx0_ok Tryz.func80 rfl (by decide) fun args cs v hC hc => by
 unfold ipC at hC
 split at hC
 ·simp only [Option.some.injEq, Prod.mk.injEq] at hC
  obtain ⟨rfl, rfl⟩ := hC
  obtain rfl := hc _ (.head _)
  exact ⟨[XI 16], by kernel_rfl, rfl, rfl, fun _ _ _ h => h, rfl, exv ipV_eq ip_v⟩
 ·cases hC
def tzC : CT := fun args => match args with
 | [.v (.p (.int .u64 x))] => some ([x = 16], XI 4)
 | _ => none
def tz6V  : Prop :=
 (((16 : Int) == (0 : Int)) = true → (64 : Int) = (4 : Int)) ∧ (((16 : Int) == (0 : Int)) = false → (0 : Int) ≤ (IntKind.u64.wrap (bits BinOp.and IntKind.u64 16 (IntKind.u64.wrap (-16 : Int)) * (285870213051353865 : Int))).fdiv ((2 : Int) ^ (58 : Nat)) ∧ (IntKind.u64.wrap (bits BinOp.and IntKind.u64 16 (IntKind.u64.wrap (-16 : Int)) * (285870213051353865 : Int))).fdiv ((2 : Int) ^ (58 : Nat)) < (↑(64 : Nat) : Int) ∧ (15 : Nat) < (64 : Nat) ∧ in64 ([(0 : Int), (1 : Int), (56 : Int), (2 : Int), (57 : Int), (49 : Int), (28 : Int), (3 : Int), (61 : Int), (58 : Int), (42 : Int), (50 : Int), (38 : Int), (29 : Int), (17 : Int), (4 : Int), (62 : Int), (47 : Int), (59 : Int), (36 : Int), (45 : Int), (43 : Int), (51 : Int), (22 : Int), (53 : Int), (39 : Int), (33 : Int), (30 : Int), (24 : Int), (18 : Int), (12 : Int), (5 : Int), (63 : Int), (55 : Int), (48 : Int), (27 : Int), (60 : Int), (41 : Int), (37 : Int), (16 : Int), (46 : Int), (35 : Int), (44 : Int), (21 : Int), (52 : Int), (32 : Int), (23 : Int), (11 : Int), (54 : Int), (26 : Int), (40 : Int), (15 : Int), (34 : Int), (20 : Int), (31 : Int), (10 : Int), (25 : Int), (14 : Int), (19 : Int), (9 : Int), (13 : Int), (8 : Int), (7 : Int), (6 : Int)].getD ((15 : Nat)) 0) ∧ [(0 : Int), (1 : Int), (56 : Int), (2 : Int), (57 : Int), (49 : Int), (28 : Int), (3 : Int), (61 : Int), (58 : Int), (42 : Int), (50 : Int), (38 : Int), (29 : Int), (17 : Int), (4 : Int), (62 : Int), (47 : Int), (59 : Int), (36 : Int), (45 : Int), (43 : Int), (51 : Int), (22 : Int), (53 : Int), (39 : Int), (33 : Int), (30 : Int), (24 : Int), (18 : Int), (12 : Int), (5 : Int), (63 : Int), (55 : Int), (48 : Int), (27 : Int), (60 : Int), (41 : Int), (37 : Int), (16 : Int), (46 : Int), (35 : Int), (44 : Int), (21 : Int), (52 : Int), (32 : Int), (23 : Int), (11 : Int), (54 : Int), (26 : Int), (40 : Int), (15 : Int), (34 : Int), (20 : Int), (31 : Int), (10 : Int), (25 : Int), (14 : Int), (19 : Int), (9 : Int), (13 : Int), (8 : Int), (7 : Int), (6 : Int)].getD ((15 : Nat)) 0 = (4 : Int))
theorem tz6V_eq  : tz6V  = (funC cx0 Tryz.f102 .nil [XU 16] (XI 4)) := by kernel_rfl
theorem tz6_v : tz6V := by
 unfold tz6V
 exact ⟨fun h => absurd h (by decide), fun _ => ⟨by decide +kernel, by decide +kernel, by decide, by unfold in64; decide, by kernel_rfl⟩⟩
theorem tz6_ok : CTok Tryz.prog 102 tzC := ct_ok2 cx0_ok Tryz.func102 rfl (by decide) fun args cs v hC hc => by
 unfold tzC at hC
 split at hC
 ·simp only [Option.some.injEq, Prod.mk.injEq] at hC
  obtain ⟨rfl, rfl⟩ := hC
  obtain rfl := hc _ (.head _)
  exact ⟨[XU 16], by kernel_rfl, rfl, rfl, fun _ _ _ h => h, rfl, exv tz6V_eq tz6_v⟩
 ·cases hC
def cxaAd : Cx := { cx0 with C := [(102, tzC), (80, ipC)] }
theorem cxaAd_ok : cxaAd.ok Tryz.prog := (cx0_ok.addC ip_ok).addC tz6_ok
def tzV  : Prop :=
 (false = true → False) ∧ (false = false → (16 : Int) = (16 : Int) ∧ (4 : Int) = (4 : Int))
theorem tzV_eq  : tzV  = (funC cxaAd Tryz.f81 .nil [XU 16] (XI 4)) := by kernel_rfl
theorem tz_v : tzV := by
 unfold tzV
 exact ⟨fun h => absurd h (by decide), fun _ => ⟨rfl, rfl⟩⟩
theorem tz_ok : CTok Tryz.prog 81 tzC := ct_ok2 cxaAd_ok Tryz.func81 rfl (by decide) fun args cs v hC hc => by
 unfold tzC at hC
 split at hC
 ·simp only [Option.some.injEq, Prod.mk.injEq] at hC
  obtain ⟨rfl, rfl⟩ := hC
  obtain rfl := hc _ (.head _)
  exact ⟨[XU 16], by kernel_rfl, rfl, rfl, fun _ _ _ h => h, rfl, exv tzV_eq tz_v⟩
 ·cases hC
def cxbAd : Cx := { cxaAd with C := (81, tzC) :: cxaAd.C }
theorem cxbAd_ok : cxbAd.ok Tryz.prog := cxaAd_ok.addC tz_ok
def fbE : Env := { rollu := [(0, 4)], dec := [6, 8, 26, 29] }
def hexd (k : Nat) : UInt8 := if k < 10 then UInt8.ofNat (48 + k) else UInt8.ofNat (87 + k)
def hexL (n : Nat) : List UInt8 :=
 if n < 16 then [hexd n] else if n < 256 then [hexd (n / 16), hexd (n % 16)]
 else if n < 4096 then [hexd (n / 256), hexd (n / 16 % 16), hexd (n % 16)] else [hexd (n / 4096), hexd (n / 256 % 16), hexd (n / 16 % 16), hexd (n % 16)]
def hexB (n : Nat) : ByteArray := ofBytes (hexL n)
def fbC : CT := fun args => match args with
 | [.v (.p (.slice none 0 0)), .v (.p (.int .u64 u)), .v (.p (.int .i64 b)), .v (.p (.bool g)), .v (.p (.bool a))] => some ([0 ≤ u, u < 65536, b = 16, g = false, a = false], .tup [Xnil, XT (hexB u.toNat)])
 | _ => none
def fbV_f (n : Nat) :=
 (sbyte ⟨#[48, 49, 50, 51, 52, 53, 54, 55, 56, 57, 97, 98, 99, 100, 101, 102, 103, 104, 105, 106, 107, 108, 109, 110, 111, 112, 113, 114, 115, 116, 117, 118, 119, 120, 121, 122]⟩ ((↑n : Int).fdiv ((2 : Int) ^ (4 : Nat))))
def fbV_g (n : Nat) :=
 (sbyte ⟨#[48, 49, 50, 51, 52, 53, 54, 55, 56, 57, 97, 98, 99, 100, 101, 102, 103, 104, 105, 106, 107, 108, 109, 110, 111, 112, 113, 114, 115, 116, 117, 118, 119, 120, 121, 122]⟩ (↑n : Int))
def fbV_h :=
 (IntKind.u64.wrap (IntKind.u64.wrap 16 - (1 : Int)))
def fbV_a (n : Nat) :=
 (sbyte ⟨#[48, 49, 50, 51, 52, 53, 54, 55, 56, 57, 97, 98, 99, 100, 101, 102, 103, 104, 105, 106, 107, 108, 109, 110, 111, 112, 113, 114, 115, 116, 117, 118, 119, 120, 121, 122]⟩ (bits BinOp.and IntKind.u64 (↑n : Int) fbV_h))
def fbV_b (n : Nat) :=
 (sbyte ⟨#[48, 49, 50, 51, 52, 53, 54, 55, 56, 57, 97, 98, 99, 100, 101, 102, 103, 104, 105, 106, 107, 108, 109, 110, 111, 112, 113, 114, 115, 116, 117, 118, 119, 120, 121, 122]⟩ (bits BinOp.and IntKind.u64 ((↑n : Int).fdiv ((2 : Int) ^ (4 : Nat))) fbV_h))
def fbV_i (n : Nat) :=
 (((↑n : Int).fdiv ((2 : Int) ^ (4 : Nat))).fdiv ((2 : Int) ^ (4 : Nat)))
def fbV_c (n : Nat) :=
 (sbyte ⟨#[48, 49, 50, 51, 52, 53, 54, 55, 56, 57, 97, 98, 99, 100, 101, 102, 103, 104, 105, 106, 107, 108, 109, 110, 111, 112, 113, 114, 115, 116, 117, 118, 119, 120, 121, 122]⟩ (bits BinOp.and IntKind.u64 (fbV_i n) fbV_h))
def fbV_d (n : Nat) :=
 (sbyte ⟨#[48, 49, 50, 51, 52, 53, 54, 55, 56, 57, 97, 98, 99, 100, 101, 102, 103, 104, 105, 106, 107, 108, 109, 110, 111, 112, 113, 114, 115, 116, 117, 118, 119, 120, 121, 122]⟩ ((fbV_i n).fdiv ((2 : Int) ^ (4 : Nat))))
def fbV_e (n : Nat) :=
 (sbyte ⟨#[48, 49, 50, 51, 52, 53, 54, 55, 56, 57, 97, 98, 99, 100, 101, 102, 103, 104, 105, 106, 107, 108, 109, 110, 111, 112, 113, 114, 115, 116, 117, 118, 119, 120, 121, 122]⟩ (fbV_i n))
def fbV (n : Nat) : Prop :=
 ((decide ((16 : Int) < (2 : Int)) || (16 : Int) == (10 : Int) || decide ((16 : Int) > (36 : Int))) = true → False) ∧ ((decide ((16 : Int) < (2 : Int)) || (16 : Int) == (10 : Int) || decide ((16 : Int) > (36 : Int))) = false → (16 : Int) = (16 : Int) ∧ IntKind.u64.wrap 16 = (16 : Int) ∧ (decide ((↑n : Int) ≥ IntKind.u64.wrap 16) = true → in64 ((65 : Int) - (1 : Int)) ∧ (0 : Int) ≤ bits BinOp.and IntKind.u64 (↑n : Int) fbV_h ∧ bits BinOp.and IntKind.u64 (↑n : Int) fbV_h < (↑((36 : Nat)) : Int) ∧ (0 : Int) ≤ (65 : Int) - (1 : Int) ∧ (65 : Int) - (1 : Int) < (↑(65 : Nat) : Int) ∧ (64 : Nat) < (65 : Nat) ∧ (0 : Int) ≤ IntKind.u64.wrap 4 ∧ (decide ((↑n : Int).fdiv ((2 : Int) ^ (4 : Nat)) ≥ IntKind.u64.wrap 16) = true → in64 ((65 : Int) - (1 : Int) - (1 : Int)) ∧ (0 : Int) ≤ bits BinOp.and IntKind.u64 ((↑n : Int).fdiv ((2 : Int) ^ (4 : Nat))) fbV_h ∧ bits BinOp.and IntKind.u64 ((↑n : Int).fdiv ((2 : Int) ^ (4 : Nat))) fbV_h < (↑((36 : Nat)) : Int) ∧ (0 : Int) ≤ (65 : Int) - (1 : Int) - (1 : Int) ∧ (65 : Int) - (1 : Int) - (1 : Int) < (↑(65 : Nat) : Int) ∧ (63 : Nat) < [(0 : Int), (0 : Int), (0 : Int), (0 : Int), (0 : Int), (0 : Int), (0 : Int), (0 : Int), (0 : Int), (0 : Int), (0 : Int), (0 : Int), (0 : Int), (0 : Int), (0 : Int), (0 : Int), (0 : Int), (0 : Int), (0 : Int), (0 : Int), (0 : Int), (0 : Int), (0 : Int), (0 : Int), (0 : Int), (0 : Int), (0 : Int), (0 : Int), (0 : Int), (0 : Int), (0 : Int), (0 : Int), (0 : Int), (0 : Int), (0 : Int), (0 : Int), (0 : Int), (0 : Int), (0 : Int), (0 : Int), (0 : Int), (0 : Int), (0 : Int), (0 : Int), (0 : Int), (0 : Int), (0 : Int), (0 : Int), (0 : Int), (0 : Int), (0 : Int), (0 : Int), (0 : Int), (0 : Int), (0 : Int), (0 : Int), (0 : Int), (0 : Int), (0 : Int), (0 : Int), (0 : Int), (0 : Int), (0 : Int), (0 : Int), sbyte ⟨#[48, 49, 50, 51, 52, 53, 54, 55, 56, 57, 97, 98, 99, 100, 101, 102, 103, 104, 105, 106, 107, 108, 109, 110, 111, 112, 113, 114, 115, 116, 117, 118, 119, 120, 121, 122]⟩ (bits BinOp.and IntKind.u64 (↑n : Int) fbV_h)].length ∧ (0 : Int) ≤ IntKind.u64.wrap 4 ∧ (decide (((↑n : Int).fdiv ((2 : Int) ^ (4 : Nat))).fdiv ((2 : Int) ^ (4 : Nat)) ≥ IntKind.u64.wrap 16) = true → in64 ((65 : Int) - (1 : Int) - (1 : Int) - (1 : Int)) ∧ (0 : Int) ≤ bits BinOp.and IntKind.u64 (fbV_i n) fbV_h ∧ bits BinOp.and IntKind.u64 (fbV_i n) fbV_h < (↑((36 : Nat)) : Int) ∧ (0 : Int) ≤ (65 : Int) - (1 : Int) - (1 : Int) - (1 : Int) ∧ (65 : Int) - (1 : Int) - (1 : Int) - (1 : Int) < (↑(65 : Nat) : Int) ∧ (62 : Nat) < [(0 : Int), (0 : Int), (0 : Int), (0 : Int), (0 : Int), (0 : Int), (0 : Int), (0 : Int), (0 : Int), (0 : Int), (0 : Int), (0 : Int), (0 : Int), (0 : Int), (0 : Int), (0 : Int), (0 : Int), (0 : Int), (0 : Int), (0 : Int), (0 : Int), (0 : Int), (0 : Int), (0 : Int), (0 : Int), (0 : Int), (0 : Int), (0 : Int), (0 : Int), (0 : Int), (0 : Int), (0 : Int), (0 : Int), (0 : Int), (0 : Int), (0 : Int), (0 : Int), (0 : Int), (0 : Int), (0 : Int), (0 : Int), (0 : Int), (0 : Int), (0 : Int), (0 : Int), (0 : Int), (0 : Int), (0 : Int), (0 : Int), (0 : Int), (0 : Int), (0 : Int), (0 : Int), (0 : Int), (0 : Int), (0 : Int), (0 : Int), (0 : Int), (0 : Int), (0 : Int), (0 : Int), (0 : Int), (0 : Int), sbyte ⟨#[48, 49, 50, 51, 52, 53, 54, 55, 56, 57, 97, 98, 99, 100, 101, 102, 103, 104, 105, 106, 107, 108, 109, 110, 111, 112, 113, 114, 115, 116, 117, 118, 119, 120, 121, 122]⟩ (bits BinOp.and IntKind.u64 ((↑n : Int).fdiv ((2 : Int) ^ (4 : Nat))) fbV_h), sbyte ⟨#[48, 49, 50, 51, 52, 53, 54, 55, 56, 57, 97, 98, 99, 100, 101, 102, 103, 104, 105, 106, 107, 108, 109, 110, 111, 112, 113, 114, 115, 116, 117, 118, 119, 120, 121, 122]⟩ (bits BinOp.and IntKind.u64 (↑n : Int) fbV_h)].length ∧ (0 : Int) ≤ IntKind.u64.wrap 4 ∧ (decide ((fbV_i n).fdiv ((2 : Int) ^ (4 : Nat)) ≥ IntKind.u64.wrap 16) = true → in64 ((65 : Int) - (1 : Int) - (1 : Int) - (1 : Int) - (1 : Int)) ∧ (0 : Int) ≤ bits BinOp.and IntKind.u64 ((fbV_i n).fdiv ((2 : Int) ^ (4 : Nat))) fbV_h ∧ bits BinOp.and IntKind.u64 ((fbV_i n).fdiv ((2 : Int) ^ (4 : Nat))) fbV_h < (↑((36 : Nat)) : Int) ∧ (0 : Int) ≤ (65 : Int) - (1 : Int) - (1 : Int) - (1 : Int) - (1 : Int) ∧ (65 : Int) - (1 : Int) - (1 : Int) - (1 : Int) - (1 : Int) < (↑(65 : Nat) : Int) ∧ (61 : Nat) < [(0 : Int), (0 : Int), (0 : Int), (0 : Int), (0 : Int), (0 : Int), (0 : Int), (0 : Int), (0 : Int), (0 : Int), (0 : Int), (0 : Int), (0 : Int), (0 : Int), (0 : Int), (0 : Int), (0 : Int), (0 : Int), (0 : Int), (0 : Int), (0 : Int), (0 : Int), (0 : Int), (0 : Int), (0 : Int), (0 : Int), (0 : Int), (0 : Int), (0 : Int), (0 : Int), (0 : Int), (0 : Int), (0 : Int), (0 : Int), (0 : Int), (0 : Int), (0 : Int), (0 : Int), (0 : Int), (0 : Int), (0 : Int), (0 : Int), (0 : Int), (0 : Int), (0 : Int), (0 : Int), (0 : Int), (0 : Int), (0 : Int), (0 : Int), (0 : Int), (0 : Int), (0 : Int), (0 : Int), (0 : Int), (0 : Int), (0 : Int), (0 : Int), (0 : Int), (0 : Int), (0 : Int), (0 : Int), sbyte ⟨#[48, 49, 50, 51, 52, 53, 54, 55, 56, 57, 97, 98, 99, 100, 101, 102, 103, 104, 105, 106, 107, 108, 109, 110, 111, 112, 113, 114, 115, 116, 117, 118, 119, 120, 121, 122]⟩ (bits BinOp.and IntKind.u64 (fbV_i n) fbV_h), sbyte ⟨#[48, 49, 50, 51, 52, 53, 54, 55, 56, 57, 97, 98, 99, 100, 101, 102, 103, 104, 105, 106, 107, 108, 109, 110, 111, 112, 113, 114, 115, 116, 117, 118, 119, 120, 121, 122]⟩ (bits BinOp.and IntKind.u64 ((↑n : Int).fdiv ((2 : Int) ^ (4 : Nat))) fbV_h), sbyte ⟨#[48, 49, 50, 51, 52, 53, 54, 55, 56, 57, 97, 98, 99, 100, 101, 102, 103, 104, 105, 106, 107, 108, 109, 110, 111, 112, 113, 114, 115, 116, 117, 118, 119, 120, 121, 122]⟩ (bits BinOp.and IntKind.u64 (↑n : Int) fbV_h)].length ∧ (0 : Int) ≤ IntKind.u64.wrap 4 ∧ False) ∧ (decide ((fbV_i n).fdiv ((2 : Int) ^ (4 : Nat)) ≥ IntKind.u64.wrap 16) = false → in64 ((65 : Int) - (1 : Int) - (1 : Int) - (1 : Int) - (1 : Int)) ∧ (0 : Int) ≤ (fbV_i n).fdiv ((2 : Int) ^ (4 : Nat)) ∧ (fbV_i n).fdiv ((2 : Int) ^ (4 : Nat)) < (↑((36 : Nat)) : Int) ∧ (0 : Int) ≤ (65 : Int) - (1 : Int) - (1 : Int) - (1 : Int) - (1 : Int) ∧ (65 : Int) - (1 : Int) - (1 : Int) - (1 : Int) - (1 : Int) < (↑(65 : Nat) : Int) ∧ (61 : Nat) < [(0 : Int), (0 : Int), (0 : Int), (0 : Int), (0 : Int), (0 : Int), (0 : Int), (0 : Int), (0 : Int), (0 : Int), (0 : Int), (0 : Int), (0 : Int), (0 : Int), (0 : Int), (0 : Int), (0 : Int), (0 : Int), (0 : Int), (0 : Int), (0 : Int), (0 : Int), (0 : Int), (0 : Int), (0 : Int), (0 : Int), (0 : Int), (0 : Int), (0 : Int), (0 : Int), (0 : Int), (0 : Int), (0 : Int), (0 : Int), (0 : Int), (0 : Int), (0 : Int), (0 : Int), (0 : Int), (0 : Int), (0 : Int), (0 : Int), (0 : Int), (0 : Int), (0 : Int), (0 : Int), (0 : Int), (0 : Int), (0 : Int), (0 : Int), (0 : Int), (0 : Int), (0 : Int), (0 : Int), (0 : Int), (0 : Int), (0 : Int), (0 : Int), (0 : Int), (0 : Int), (0 : Int), (0 : Int), sbyte ⟨#[48, 49, 50, 51, 52, 53, 54, 55, 56, 57, 97, 98, 99, 100, 101, 102, 103, 104, 105, 106, 107, 108, 109, 110, 111, 112, 113, 114, 115, 116, 117, 118, 119, 120, 121, 122]⟩ (bits BinOp.and IntKind.u64 (fbV_i n) fbV_h), sbyte ⟨#[48, 49, 50, 51, 52, 53, 54, 55, 56, 57, 97, 98, 99, 100, 101, 102, 103, 104, 105, 106, 107, 108, 109, 110, 111, 112, 113, 114, 115, 116, 117, 118, 119, 120, 121, 122]⟩ (bits BinOp.and IntKind.u64 ((↑n : Int).fdiv ((2 : Int) ^ (4 : Nat))) fbV_h), sbyte ⟨#[48, 49, 50, 51, 52, 53, 54, 55, 56, 57, 97, 98, 99, 100, 101, 102, 103, 104, 105, 106, 107, 108, 109, 110, 111, 112, 113, 114, 115, 116, 117, 118, 119, 120, 121, 122]⟩ (bits BinOp.and IntKind.u64 (↑n : Int) fbV_h)].length ∧ (0 : Int) ≤ (65 : Int) - (1 : Int) - (1 : Int) - (1 : Int) - (1 : Int) ∧ (65 : Int) - (1 : Int) - (1 : Int) - (1 : Int) - (1 : Int) ≤ (↑(65 : Nat) : Int) ∧ (↑(65 : Nat) : Int) ≤ (↑(65 : Nat) : Int) ∧ (65 : Nat) ≤ (65 : Nat) ∧ [X8 (fbV_d n), X8 (fbV_c n), X8 (fbV_b n), X8 (fbV_a n)] = [X8 (↑{ toBitVec := BitVec.ofNat 8 (fbV_d n).toNat : UInt8 }.toNat : Int), X8 (↑{ toBitVec := BitVec.ofNat 8 (fbV_c n).toNat : UInt8 }.toNat : Int), X8 (↑{ toBitVec := BitVec.ofNat 8 (fbV_b n).toNat : UInt8 }.toNat : Int), X8 (↑{ toBitVec := BitVec.ofNat 8 (fbV_a n).toNat : UInt8 }.toNat : Int)] ∧ Xnil = Xnil ∧ ofBytes [{ toBitVec := BitVec.ofNat 8 (fbV_d n).toNat : UInt8 }, { toBitVec := BitVec.ofNat 8 (fbV_c n).toNat : UInt8 }, { toBitVec := BitVec.ofNat 8 (fbV_b n).toNat : UInt8 }, { toBitVec := BitVec.ofNat 8 (fbV_a n).toNat : UInt8 }] = hexB n ∧ True)) ∧ (decide (((↑n : Int).fdiv ((2 : Int) ^ (4 : Nat))).fdiv ((2 : Int) ^ (4 : Nat)) ≥ IntKind.u64.wrap 16) = false → in64 ((65 : Int) - (1 : Int) - (1 : Int) - (1 : Int)) ∧ (0 : Int) ≤ ((↑n : Int).fdiv ((2 : Int) ^ (4 : Nat))).fdiv ((2 : Int) ^ (4 : Nat)) ∧ ((↑n : Int).fdiv ((2 : Int) ^ (4 : Nat))).fdiv ((2 : Int) ^ (4 : Nat)) < (↑((36 : Nat)) : Int) ∧ (0 : Int) ≤ (65 : Int) - (1 : Int) - (1 : Int) - (1 : Int) ∧ (65 : Int) - (1 : Int) - (1 : Int) - (1 : Int) < (↑(65 : Nat) : Int) ∧ (62 : Nat) < [(0 : Int), (0 : Int), (0 : Int), (0 : Int), (0 : Int), (0 : Int), (0 : Int), (0 : Int), (0 : Int), (0 : Int), (0 : Int), (0 : Int), (0 : Int), (0 : Int), (0 : Int), (0 : Int), (0 : Int), (0 : Int), (0 : Int), (0 : Int), (0 : Int), (0 : Int), (0 : Int), (0 : Int), (0 : Int), (0 : Int), (0 : Int), (0 : Int), (0 : Int), (0 : Int), (0 : Int), (0 : Int), (0 : Int), (0 : Int), (0 : Int), (0 : Int), (0 : Int), (0 : Int), (0 : Int), (0 : Int), (0 : Int), (0 : Int), (0 : Int), (0 : Int), (0 : Int), (0 : Int), (0 : Int), (0 : Int), (0 : Int), (0 : Int), (0 : Int), (0 : Int), (0 : Int), (0 : Int), (0 : Int), (0 : Int), (0 : Int), (0 : Int), (0 : Int), (0 : Int), (0 : Int), (0 : Int), (0 : Int), sbyte ⟨#[48, 49, 50, 51, 52, 53, 54, 55, 56, 57, 97, 98, 99, 100, 101, 102, 103, 104, 105, 106, 107, 108, 109, 110, 111, 112, 113, 114, 115, 116, 117, 118, 119, 120, 121, 122]⟩ (bits BinOp.and IntKind.u64 ((↑n : Int).fdiv ((2 : Int) ^ (4 : Nat))) fbV_h), sbyte ⟨#[48, 49, 50, 51, 52, 53, 54, 55, 56, 57, 97, 98, 99, 100, 101, 102, 103, 104, 105, 106, 107, 108, 109, 110, 111, 112, 113, 114, 115, 116, 117, 118, 119, 120, 121, 122]⟩ (bits BinOp.and IntKind.u64 (↑n : Int) fbV_h)].length ∧ (0 : Int) ≤ (65 : Int) - (1 : Int) - (1 : Int) - (1 : Int) ∧ (65 : Int) - (1 : Int) - (1 : Int) - (1 : Int) ≤ (↑(65 : Nat) : Int) ∧ (↑(65 : Nat) : Int) ≤ (↑(65 : Nat) : Int) ∧ (65 : Nat) ≤ (65 : Nat) ∧ [X8 (fbV_e n), X8 (fbV_b n), X8 (fbV_a n)] = [X8 (↑{ toBitVec := BitVec.ofNat 8 (fbV_e n).toNat : UInt8 }.toNat : Int), X8 (↑{ toBitVec := BitVec.ofNat 8 (fbV_b n).toNat : UInt8 }.toNat : Int), X8 (↑{ toBitVec := BitVec.ofNat 8 (fbV_a n).toNat : UInt8 }.toNat : Int)] ∧ Xnil = Xnil ∧ ofBytes [{ toBitVec := BitVec.ofNat 8 (fbV_e n).toNat : UInt8 }, { toBitVec := BitVec.ofNat 8 (fbV_b n).toNat : UInt8 }, { toBitVec := BitVec.ofNat 8 (fbV_a n).toNat : UInt8 }] = hexB n ∧ True)) ∧ (decide ((↑n : Int).fdiv ((2 : Int) ^ (4 : Nat)) ≥ IntKind.u64.wrap 16) = false → in64 ((65 : Int) - (1 : Int) - (1 : Int)) ∧ (0 : Int) ≤ (↑n : Int).fdiv ((2 : Int) ^ (4 : Nat)) ∧ (↑n : Int).fdiv ((2 : Int) ^ (4 : Nat)) < (↑((36 : Nat)) : Int) ∧ (0 : Int) ≤ (65 : Int) - (1 : Int) - (1 : Int) ∧ (65 : Int) - (1 : Int) - (1 : Int) < (↑(65 : Nat) : Int) ∧ (63 : Nat) < [(0 : Int), (0 : Int), (0 : Int), (0 : Int), (0 : Int), (0 : Int), (0 : Int), (0 : Int), (0 : Int), (0 : Int), (0 : Int), (0 : Int), (0 : Int), (0 : Int), (0 : Int), (0 : Int), (0 : Int), (0 : Int), (0 : Int), (0 : Int), (0 : Int), (0 : Int), (0 : Int), (0 : Int), (0 : Int), (0 : Int), (0 : Int), (0 : Int), (0 : Int), (0 : Int), (0 : Int), (0 : Int), (0 : Int), (0 : Int), (0 : Int), (0 : Int), (0 : Int), (0 : Int), (0 : Int), (0 : Int), (0 : Int), (0 : Int), (0 : Int), (0 : Int), (0 : Int), (0 : Int), (0 : Int), (0 : Int), (0 : Int), (0 : Int), (0 : Int), (0 : Int), (0 : Int), (0 : Int), (0 : Int), (0 : Int), (0 : Int), (0 : Int), (0 : Int), (0 : Int), (0 : Int), (0 : Int), (0 : Int), (0 : Int), sbyte ⟨#[48, 49, 50, 51, 52, 53, 54, 55, 56, 57, 97, 98, 99, 100, 101, 102, 103, 104, 105, 106, 107, 108, 109, 110, 111, 112, 113, 114, 115, 116, 117, 118, 119, 120, 121, 122]⟩ (bits BinOp.and IntKind.u64 (↑n : Int) fbV_h)].length ∧ (0 : Int) ≤ (65 : Int) - (1 : Int) - (1 : Int) ∧ (65 : Int) - (1 : Int) - (1 : Int) ≤ (↑(65 : Nat) : Int) ∧ (↑(65 : Nat) : Int) ≤ (↑(65 : Nat) : Int) ∧ (65 : Nat) ≤ (65 : Nat) ∧ [X8 (fbV_f n), X8 (fbV_a n)] = [X8 (↑{ toBitVec := BitVec.ofNat 8 (fbV_f n).toNat : UInt8 }.toNat : Int), X8 (↑{ toBitVec := BitVec.ofNat 8 (fbV_a n).toNat : UInt8 }.toNat : Int)] ∧ Xnil = Xnil ∧ ofBytes [{ toBitVec := BitVec.ofNat 8 (fbV_f n).toNat : UInt8 }, { toBitVec := BitVec.ofNat 8 (fbV_a n).toNat : UInt8 }] = hexB n ∧ True)) ∧ (decide ((↑n : Int) ≥ IntKind.u64.wrap 16) = false → in64 ((65 : Int) - (1 : Int)) ∧ (0 : Int) ≤ (↑n : Int) ∧ (↑n : Int) < (↑((36 : Nat)) : Int) ∧ (0 : Int) ≤ (65 : Int) - (1 : Int) ∧ (65 : Int) - (1 : Int) < (↑(65 : Nat) : Int) ∧ (64 : Nat) < (65 : Nat) ∧ (0 : Int) ≤ (65 : Int) - (1 : Int) ∧ (65 : Int) - (1 : Int) ≤ (↑(65 : Nat) : Int) ∧ (↑(65 : Nat) : Int) ≤ (↑(65 : Nat) : Int) ∧ (65 : Nat) ≤ (65 : Nat) ∧ [X8 (fbV_g n)] = [X8 (↑{ toBitVec := BitVec.ofNat 8 (fbV_g n).toNat : UInt8 }.toNat : Int)] ∧ Xnil = Xnil ∧ ofBytes [{ toBitVec := BitVec.ofNat 8 (fbV_g n).toNat : UInt8 }] = hexB n ∧ True))
theorem fbV_eq (n : Nat) : fbV n = (funC cxbAd Tryz.f61 (mkSc fbE (bodyOf Tryz.f61)) [Xnil, XU n, XI 16, XB false, XB false] (.tup [Xnil, XT (hexB n)])) := by kernel_rfl
def digs : ByteArray := ⟨#[48, 49, 50, 51, 52, 53, 54, 55, 56, 57, 97, 98, 99, 100, 101, 102, 103, 104, 105, 106, 107, 108, 109, 110, 111, 112, 113, 114, 115, 116, 117, 118, 119, 120, 121, 122]⟩
theorem w16 : IntKind.u64.wrap 16 = 16 := by kernel_rfl
theorem w15 : IntKind.u64.wrap (16 - 1) = 15 := by kernel_rfl
theorem wrapu_in {i : Int} (h0 : 0 ≤ i) (h1 : i < 18446744073709551616) : IntKind.u64.wrap i = i := by
 unfold IntKind.wrap
 simp [IntKind.signed, IntKind.bits]
 omega
theorem and15 (m : Nat) (h : m < 18446744073709551616) : bits .and .u64 (m : Int) 15 = ((m % 16 : Nat) : Int) := by
 show IntKind.u64.wrap ((BitVec.ofInt 64 (m : Int) &&& BitVec.ofInt 64 15).toNat : Int) = _
 have e : (BitVec.ofInt 64 (m : Int) &&& BitVec.ofInt 64 15).toNat = m % 16 := by
  rw [BitVec.toNat_and]
  have h1 : (BitVec.ofInt 64 (m : Int)).toNat = m := by
   rw [BitVec.toNat_ofInt]
   omega
  have h2 : (BitVec.ofInt 64 15).toNat = 15 := by decide
  rw [h1, h2]
  exact Nat.and_two_pow_sub_one_eq_mod m 4
 rw [e, wrapu_in (by omega) (by omega)]
theorem fdiv16 (m : Nat) : (m : Int).fdiv (2 ^ 4) = ((m / 16 : Nat) : Int) := by
 rw [Int.fdiv_eq_ediv_of_nonneg _ (by decide)]
 omega
theorem sb16 : ∀ k : Nat, k < 16 → sbyte digs (k : Int) = ((hexd k).toNat : Int) := by decide +kernel
theorem of8 (b : UInt8) : (⟨BitVec.ofNat 8 ((b.toNat : Int)).toNat⟩ : UInt8) = b := by
 rw [Int.toNat_natCast]
 exact UInt8.ofNat_toNat
theorem w4c : 0 ≤ IntKind.u64.wrap 4 := by decide +kernel
theorem hexL_1 (n : Nat) (h : n < 16) : hexL n = [hexd n] := if_pos h
theorem hexL_2 (n : Nat) (h : ¬ n < 16) (h2 : n < 256) : hexL n = [hexd (n / 16), hexd (n % 16)] := (if_neg h).trans (if_pos h2)
theorem hexL_3 (n : Nat) (h : ¬ n < 16) (h2 : ¬ n < 256) (h3 : n < 4096) : hexL n = [hexd (n / 256), hexd (n / 16 % 16), hexd (n % 16)] := (if_neg h).trans ((if_neg h2).trans (if_pos h3))
theorem hexL_4 (n : Nat) (h : ¬ n < 16) (h2 : ¬ n < 256) (h3 : ¬ n < 4096) : hexL n = [hexd (n / 4096), hexd (n / 256 % 16), hexd (n / 16 % 16), hexd (n % 16)] := (if_neg h).trans ((if_neg h2).trans (if_neg h3))
theorem fb_v (n : Nat) (hn : n < 65536) : fbV n := by
 unfold fbV fbV_e fbV_d fbV_c fbV_i fbV_b fbV_a fbV_h fbV_g fbV_f
 have hd : (⟨#[48, 49, 50, 51, 52, 53, 54, 55, 56, 57, 97, 98, 99, 100, 101, 102, 103, 104, 105, 106, 107, 108, 109, 110, 111, 112, 113, 114, 115, 116, 117, 118, 119, 120, 121, 122]⟩ : ByteArray) = digs := rfl
 rw [hd]
 simp only [w16, w15, fdiv16]
 have a0 := and15 n (by omega)
 have a1 := and15 (n / 16) (by omega)
 have a2 := and15 (n / 16 / 16) (by omega)
 rw [a0, a1, a2]
 have s0 := sb16 (n % 16) (by omega)
 have s1 := sb16 (n / 16 % 16) (by omega)
 have s2 := sb16 (n / 16 / 16 % 16) (by omega)
 have e2 : n / 16 / 16 = n / 256 := by omega
 have e3 : n / 16 / 16 / 16 = n / 4096 := by omega
 rw [s0, s1, s2]
 refine ⟨fun h => absurd h (by decide), fun _ => ⟨trivial, trivial, fun h0 => ⟨by unfold in64; omega, by omega, by omega, by omega, by omega, by omega, w4c, fun h1 => ⟨by unfold in64; omega, by omega, by omega, by omega, by omega, by show 63 < 65; omega, w4c, fun h2 => ⟨by unfold in64; omega, by omega, by omega, by omega, by omega, by show 62 < 65; omega, w4c, fun h3 => ?_, fun h3 => ?_⟩, fun h2 => ?_⟩, fun h1 => ?_⟩, fun h0 => ?_⟩⟩
 ·have : (16 : Int) ≤ ((n / 16 / 16 / 16 : Nat) : Int) := of_decide_eq_true h3
  omega
 ·have k0 : (16 : Int) ≤ (n : Int) := of_decide_eq_true h0
  have k1 : (16 : Int) ≤ ((n / 16 : Nat) : Int) := of_decide_eq_true h1
  have k2 : (16 : Int) ≤ ((n / 16 / 16 : Nat) : Int) := of_decide_eq_true h2
  have s3 := sb16 (n / 16 / 16 / 16) (by omega)
  rw [s3]
  refine ⟨by unfold in64; omega, by omega, by omega, by omega, by omega, by show 61 < 65; omega, by omega, by omega, by omega, by omega, ?_, trivial, ?_, trivial⟩
  ·simp only [of8]
  ·simp only [of8]
   unfold hexB
   rw [hexL_4 n (by omega) (by omega) (by omega), e3, e2]
 ·have k0 : (16 : Int) ≤ (n : Int) := of_decide_eq_true h0
  have k1 : (16 : Int) ≤ ((n / 16 : Nat) : Int) := of_decide_eq_true h1
  have k2 : ¬ (16 : Int) ≤ ((n / 16 / 16 : Nat) : Int) := of_decide_eq_false h2
  have s3 := sb16 (n / 16 / 16) (by omega)
  rw [s3]
  refine ⟨by unfold in64; omega, by omega, by omega, by omega, by omega, by show 62 < 65; omega, by omega, by omega, by omega, by omega, ?_, trivial, ?_, trivial⟩
  ·simp only [of8]
  ·simp only [of8]
   unfold hexB
   rw [hexL_3 n (by omega) (by omega) (by omega), e2]
 ·have k0 : (16 : Int) ≤ (n : Int) := of_decide_eq_true h0
  have k1 : ¬ (16 : Int) ≤ ((n / 16 : Nat) : Int) := of_decide_eq_false h1
  have s3 := sb16 (n / 16) (by omega)
  rw [s3]
  refine ⟨by unfold in64; omega, by omega, by omega, by omega, by omega, by show 63 < 65; omega, by omega, by omega, by omega, by omega, ?_, trivial, ?_, trivial⟩
  ·simp only [of8]
  ·simp only [of8]
   unfold hexB
   rw [hexL_2 n (by omega) (by omega)]
 ·have k0 : ¬ (16 : Int) ≤ (n : Int) := of_decide_eq_false h0
  have s3 := sb16 n (by omega)
  rw [s3]
  refine ⟨by unfold in64; omega, by omega, by omega, by omega, by omega, by omega, by omega, by omega, by omega, by omega, ?_, trivial, ?_, trivial⟩
  ·simp only [of8]
  ·simp only [of8]
   unfold hexB
   rw [hexL_1 n (by omega)]
theorem fb_ok : CTok Tryz.prog 61 fbC := ct_ok2 cxbAd_ok Tryz.func61 rfl (by decide) fun args cs v hC hc => by
 unfold fbC at hC
 split at hC
 ·rename_i u b g a
  simp only [Option.some.injEq, Prod.mk.injEq] at hC
  obtain ⟨rfl, rfl⟩ := hC
  have h0 : 0 ≤ u := hc _ (by simp)
  have h1 : u < 65536 := hc _ (by simp)
  obtain rfl : b = 16 := hc _ (by simp)
  obtain rfl : g = false := hc _ (by simp)
  obtain rfl : a = false := hc _ (by simp)
  obtain ⟨n, rfl⟩ : ∃ n : Nat, u = n := ⟨u.toNat, by omega⟩
  exact ⟨[Xnil, XU n, XI 16, XB false, XB false], by kernel_rfl, rfl, rfl, fun _ _ _ h => h, rfl, exv (fbV_eq n) (fb_v n (by omega))⟩
 ·cases hC
def cxcAd : Cx := { cxbAd with C := (61, fbC) :: cxbAd.C }
theorem cxcAd_ok : cxcAd.ok Tryz.prog := cxbAd_ok.addC fb_ok
def fmtC : CT := fun args => match args with
 | [.v (.p (.int .i64 u)), .v (.p (.int .i64 b))] => some ([0 ≤ u, u < 65536, b = 16], XT (hexB u.toNat))
 | _ => none
def fiV (n : Nat) : Prop :=
 (((16 : Int) == (10 : Int)) = true → ((decide ((0 : Int) ≤ (↑n : Int)) && decide ((↑n : Int) < (100 : Int))) = true → False) ∧ ((decide ((0 : Int) ≤ (↑n : Int)) && decide ((↑n : Int) < (100 : Int))) = false → (decide ((↑n : Int) < (0 : Int)) = true → False) ∧ (decide ((↑n : Int) < (0 : Int)) = false → False))) ∧ (((16 : Int) == (10 : Int)) = false → (0 : Int) ≤ IntKind.u64.wrap (↑n : Int) ∧ IntKind.u64.wrap (↑n : Int) < (65536 : Int) ∧ (16 : Int) = (16 : Int) ∧ decide ((↑n : Int) < (0 : Int)) = false ∧ false = false ∧ hexB (IntKind.u64.wrap (↑n : Int)).toNat = hexB n)
theorem fiV_eq (n : Nat) : fiV n = (funC cxcAd Tryz.f38 .nil [XI n, XI 16] (XT (hexB n))) := by kernel_rfl
theorem fi_v (n : Nat) (hn : n < 65536) : fiV n := by
 unfold fiV
 have e : IntKind.u64.wrap (n : Int) = n := wrapu_in (by omega) (by omega)
 rw [e]
 exact ⟨fun h => absurd h (by decide), fun _ => ⟨by omega, by omega, rfl, decide_eq_false (by omega), rfl, rfl⟩⟩
theorem fi_ok : CTok Tryz.prog 38 fmtC := ct_ok2 cxcAd_ok Tryz.func38 rfl (by decide) fun args cs v hC hc => by
 unfold fmtC at hC
 split at hC
 ·rename_i u b
  simp only [Option.some.injEq, Prod.mk.injEq] at hC
  obtain ⟨rfl, rfl⟩ := hC
  have h0 : 0 ≤ u := hc _ (by simp)
  have h1 : u < 65536 := hc _ (by simp)
  obtain rfl : b = 16 := hc _ (by simp)
  obtain ⟨n, rfl⟩ : ∃ n : Nat, u = n := ⟨u.toNat, by omega⟩
  exact ⟨[XI n, XI 16], by kernel_rfl, rfl, rfl, fun _ _ _ h => h, rfl, exv (fiV_eq n) (fi_v n (by omega))⟩
 ·cases hC
def cxdAd : Cx := { cxcAd with C := (38, fmtC) :: cxcAd.C }
theorem cxdAd_ok : cxdAd.ok Tryz.prog := cxcAd_ok.addC fi_ok
def fmV (n : Nat) : Prop :=
 (0 : Int) ≤ (↑n : Int) ∧ (↑n : Int) < (65536 : Int) ∧ (16 : Int) = (16 : Int) ∧ hexB (↑n : Int).toNat = hexB n
theorem fmV_eq (n : Nat) : fmV n = (funC cxdAd Tryz.f27 .nil [XI n, XI 16] (XT (hexB n))) := by kernel_rfl
theorem fm_v (n : Nat) (hn : n < 65536) : fmV n := by
 unfold fmV
 exact ⟨by omega, by omega, rfl, rfl⟩
theorem fm_ok : CTok Tryz.prog 27 fmtC := ct_ok2 cxdAd_ok Tryz.func27 rfl (by decide) fun args cs v hC hc => by
 unfold fmtC at hC
 split at hC
 ·rename_i u b
  simp only [Option.some.injEq, Prod.mk.injEq] at hC
  obtain ⟨rfl, rfl⟩ := hC
  have h0 : 0 ≤ u := hc _ (by simp)
  have h1 : u < 65536 := hc _ (by simp)
  obtain rfl : b = 16 := hc _ (by simp)
  obtain ⟨n, rfl⟩ : ∃ n : Nat, u = n := ⟨u.toNat, by omega⟩
  exact ⟨[XI n, XI 16], by kernel_rfl, rfl, rfl, fun _ _ _ h => h, rfl, exv (fmV_eq n) (fm_v n (by omega))⟩
 ·cases hC
end Go.Proofs.YtkjcoehblekpdaaGreatDoorAv
namespace Go.Proofs.YtkjcoehblekpdaaGreatDoorAv
open Go Go.RowKit
def lowCAd : CT := fun args => match args with
 | [.v (.p (.int .u8 x))] => some ([], .v (.p (.int .u8 (bits .or .u8 x 32))))
 | _ => none
def lowVAd (x : Int) : Prop :=
 bits BinOp.or IntKind.u8 x (32 : Int) = bits BinOp.or IntKind.u8 x (32 : Int)
theorem lowVAd_eq (x : Int) : lowVAd x = (funC cx0 Tryz.f89 .nil [X8 x] (X8 (bits .or .u8 x 32))) := by kernel_rfl
theorem low_vAd (x : Int) : lowVAd x := by
 unfold lowVAd
 rfl
theorem low_okAd : CTok Tryz.prog 89 lowCAd := ct_ok2 cx0_ok Tryz.func89 rfl (by decide) fun args cs v hC hc => by
 unfold lowCAd at hC
 split at hC
 ·rename_i x
  simp only [Option.some.injEq, Prod.mk.injEq] at hC
  obtain ⟨rfl, rfl⟩ := hC
  exact ⟨[X8 x], by kernel_rfl, rfl, rfl, fun _ _ _ h => h, rfl, exv (lowVAd_eq x) (low_vAd x)⟩
 ·cases hC
def cxeAd : Cx := { cx0 with C := [(89, lowCAd)] }
theorem cxeAd_ok : cxeAd.ok Tryz.prog := cx0_ok.addC low_okAd
def hx (c : UInt8) : Nat := if 48 ≤ c.toNat ∧ c.toNat ≤ 57 then c.toNat - 48 else if 97 ≤ (c ||| 32).toNat ∧ (c ||| 32).toNat ≤ 102 then (c ||| 32).toNat - 87 else 99
def pu (n : Nat) : List UInt8 → Nat × Nat
 | [] => (0, n)
 | c :: l => if hx c = 99 then (2, 0) else if 65535 < n * 16 + hx c then (1, 65535) else pu (n * 16 + hx c) l
def pu16 (s : ByteArray) : Nat × Nat := if s = ⟨#[]⟩ then (2, 0) else pu 0 s.data.toList
def eNum (k : Int) : XV := .v (.p (.iface 116 (.int .i64 k)))
def eNil : XV := .v (.p .nilIface)
def puAlts (r : Nat × Nat) : List (Prop × XV) := [(r.1 = 0, .tup [XU r.2, eNil]), (r.1 = 1, .tup [XU r.2, eNum 1]), (r.1 = 2, .tup [XU r.2, eNum 2])]
structure BX where
 i : Nat
 n : Nat
def puI (s : ByteArray) : Inv where
 σ := BX
 S := fun x => ⟨[(1, XI 16), (8, XB false), (10, XU 1152921504606846976), (11, XU 65535), (12, XB false), (13, XU x.n), (99, .sl 0 1 0 s.size), (100, XI s.size), (101, XI x.i)], [(0, .vec 5 false s.size 1 fun j => [X8 (sbyte s j)])], 1, false, []⟩
 inv := fun x => x.i ≤ s.size ∧ x.n ≤ 65535 ∧ pu x.n (s.data.toList.drop x.i) = pu16 s
 μ := fun x => s.size - x.i
def puE (s : ByteArray) : Env := { loops := [(3, puI s)], dec := [7, 22, 24, 29, 31, 57], gdec := [56] }
def puV_a (s : ByteArray) (x : BX) :=
 (IntKind.u64.wrap ((↑x.n : Int) * IntKind.u64.wrap 16) + IntKind.u64.wrap (IntKind.u8.wrap (IntKind.u8.wrap (bits BinOp.or IntKind.u8 (sbyte s (↑((0 : Nat) + (↑x.i : Int).toNat) : Int)) 32 - (97 : Int)) + (10 : Int))))
def puV_c :=
 (AV.p (Value.iface 116 (Value.int IntKind.i64 2)))
def puV_d (s : ByteArray) (x : BX) :=
 (IntKind.u64.wrap ((↑x.n : Int) * IntKind.u64.wrap 16) + IntKind.u64.wrap (IntKind.u8.wrap (sbyte s (↑((0 : Nat) + (↑x.i : Int).toNat) : Int) - (48 : Int))))
def puV_e :=
 (AV.p (Value.iface (116 : TypeId) (Value.int IntKind.i64 1)))
def puV_f :=
 (AV.p (Value.iface (116 : TypeId) (Value.int IntKind.i64 2)))
def puV_b (s : ByteArray) (x : BX) :=
 (decide ((↑x.n : Int) ≥ (1152921504606846976 : Int)) = true → (pu16 s).fst = (0 : Nat) ∧ (65535 : Int) = (↑(pu16 s).snd : Int) ∧ XV.v (AV.p (Value.iface 116 (Value.int IntKind.i64 1))) = XV.v (AV.p Value.nilIface) ∧ True ∨ (pu16 s).fst = (1 : Nat) ∧ (65535 : Int) = (↑(pu16 s).snd : Int) ∧ XV.v (AV.p (Value.iface 116 (Value.int IntKind.i64 1))) = XV.v puV_e ∧ True ∨ (pu16 s).fst = (2 : Nat) ∧ (65535 : Int) = (↑(pu16 s).snd : Int) ∧ XV.v (AV.p (Value.iface 116 (Value.int IntKind.i64 1))) = XV.v puV_f ∧ True ∨ False)
def puV (s : ByteArray) : Prop :=
 (decide (s = ⟨#[]⟩) = true → (pu16 s).fst = (0 : Nat) ∧ (0 : Int) = (↑(pu16 s).snd : Int) ∧ XV.v puV_c = XV.v (AV.p Value.nilIface) ∧ True ∨ (pu16 s).fst = (1 : Nat) ∧ (0 : Int) = (↑(pu16 s).snd : Int) ∧ XV.v puV_c = XV.v puV_e ∧ True ∨ (pu16 s).fst = (2 : Nat) ∧ (0 : Int) = (↑(pu16 s).snd : Int) ∧ XV.v puV_c = XV.v puV_f ∧ True ∨ False) ∧ (decide (s = ⟨#[]⟩) = false → (0 : Int) ≤ IntKind.u64.wrap 16 ∧ (∃ (x : (puI s).σ), (x.i ≤ s.size ∧ x.n ≤ (65535 : Nat) ∧ pu x.n (List.drop x.i s.data.toList) = pu16 s) ∧ true = true ∧ (16 : Int) = (16 : Int) ∧ ((16 : Int) == (0 : Int)) = false ∧ (1152921504606846976 : Int) = (1152921504606846976 : Int) ∧ IntKind.u64.wrap (IntKind.u64.wrap ((1 : Int) * (2 : Int) ^ (16 : Nat)) - (1 : Int)) = (65535 : Int) ∧ false = false ∧ (0 : Int) = (↑x.n : Int) ∧ XV.sl 0 1 0 s.size = XV.sl 0 1 0 s.size ∧ (↑s.size : Int) = (↑s.size : Int) ∧ (0 : Int) = (↑x.i : Int) ∧ (((5 : TypeId) = (5 : TypeId) ∧ false = false ∧ (1 : Nat) = (1 : Nat)) ∧ s.size = s.size ∧ ∀ (j : Nat), j < s.size → [X8 (sbyte s (↑j : Int))] = [X8 (sbyte s (↑j : Int))]) ∧ True) ∧ ∀ (x : BX), x.i ≤ s.size ∧ x.n ≤ (65535 : Nat) ∧ pu x.n (List.drop x.i s.data.toList) = pu16 s → (decide ((↑x.i : Int) < (↑s.size : Int)) = true → (0 : Int) ≤ (↑x.i : Int) ∧ (↑x.i : Int) < (↑s.size : Int) ∧ (0 : Nat) + (↑x.i : Int).toNat < s.size ∧ ((sbyte s (↑((0 : Nat) + (↑x.i : Int).toNat) : Int) == (95 : Int) && false) = true → in64 ((↑x.i : Int) + (1 : Int)) ∧ ∃ (x' : (puI s).σ), (x'.i ≤ s.size ∧ x'.n ≤ (65535 : Nat) ∧ pu x'.n (List.drop x'.i s.data.toList) = pu16 s) ∧ s.size - x'.i < s.size - x.i ∧ true = true ∧ (16 : Int) = (16 : Int) ∧ false = false ∧ (1152921504606846976 : Int) = (1152921504606846976 : Int) ∧ (65535 : Int) = (65535 : Int) ∧ true = false ∧ (↑x.n : Int) = (↑x'.n : Int) ∧ XV.sl 0 1 0 s.size = XV.sl 0 1 0 s.size ∧ (↑s.size : Int) = (↑s.size : Int) ∧ (↑x.i : Int) + (1 : Int) = (↑x'.i : Int) ∧ (((5 : TypeId) = (5 : TypeId) ∧ false = false ∧ (1 : Nat) = (1 : Nat)) ∧ s.size = s.size ∧ ∀ (j : Nat), j < s.size → [X8 (sbyte s (↑j : Int))] = [X8 (sbyte s (↑j : Int))]) ∧ True) ∧ ((sbyte s (↑((0 : Nat) + (↑x.i : Int).toNat) : Int) == (95 : Int) && false) = false → (decide ((48 : Int) ≤ sbyte s (↑((0 : Nat) + (↑x.i : Int).toNat) : Int)) = true → decide ((48 : Int) ≤ sbyte s (↑((0 : Nat) + (↑x.i : Int).toNat) : Int)) = true) ∧ (decide ((48 : Int) ≤ sbyte s (↑((0 : Nat) + (↑x.i : Int).toNat) : Int)) = true → decide ((48 : Int) ≤ sbyte s (↑((0 : Nat) + (↑x.i : Int).toNat) : Int)) = true) ∧ ((decide ((48 : Int) ≤ sbyte s (↑((0 : Nat) + (↑x.i : Int).toNat) : Int)) && decide (sbyte s (↑((0 : Nat) + (↑x.i : Int).toNat) : Int) ≤ (57 : Int))) = true → (decide (IntKind.u8.wrap (sbyte s (↑((0 : Nat) + (↑x.i : Int).toNat) : Int) - (48 : Int)) ≥ IntKind.u8.wrap 16) = true → (pu16 s).fst = (0 : Nat) ∧ (0 : Int) = (↑(pu16 s).snd : Int) ∧ XV.v puV_c = XV.v (AV.p Value.nilIface) ∧ True ∨ (pu16 s).fst = (1 : Nat) ∧ (0 : Int) = (↑(pu16 s).snd : Int) ∧ XV.v puV_c = XV.v puV_e ∧ True ∨ (pu16 s).fst = (2 : Nat) ∧ (0 : Int) = (↑(pu16 s).snd : Int) ∧ XV.v puV_c = XV.v puV_f ∧ True ∨ False) ∧ (decide (IntKind.u8.wrap (sbyte s (↑((0 : Nat) + (↑x.i : Int).toNat) : Int) - (48 : Int)) ≥ IntKind.u8.wrap 16) = false → (puV_b s x) ∧ (decide ((↑x.n : Int) ≥ (1152921504606846976 : Int)) = false → ((decide (IntKind.u64.wrap (puV_d s x) < IntKind.u64.wrap ((↑x.n : Int) * IntKind.u64.wrap 16)) || decide (IntKind.u64.wrap (puV_d s x) > (65535 : Int))) = true → (pu16 s).fst = (0 : Nat) ∧ (65535 : Int) = (↑(pu16 s).snd : Int) ∧ XV.v (AV.p (Value.iface 116 (Value.int IntKind.i64 1))) = XV.v (AV.p Value.nilIface) ∧ True ∨ (pu16 s).fst = (1 : Nat) ∧ (65535 : Int) = (↑(pu16 s).snd : Int) ∧ XV.v (AV.p (Value.iface 116 (Value.int IntKind.i64 1))) = XV.v puV_e ∧ True ∨ (pu16 s).fst = (2 : Nat) ∧ (65535 : Int) = (↑(pu16 s).snd : Int) ∧ XV.v (AV.p (Value.iface 116 (Value.int IntKind.i64 1))) = XV.v puV_f ∧ True ∨ False) ∧ ((decide (IntKind.u64.wrap (puV_d s x) < IntKind.u64.wrap ((↑x.n : Int) * IntKind.u64.wrap 16)) || decide (IntKind.u64.wrap (puV_d s x) > (65535 : Int))) = false → in64 ((↑x.i : Int) + (1 : Int)) ∧ ∃ (x' : (puI s).σ), (x'.i ≤ s.size ∧ x'.n ≤ (65535 : Nat) ∧ pu x'.n (List.drop x'.i s.data.toList) = pu16 s) ∧ s.size - x'.i < s.size - x.i ∧ true = true ∧ (16 : Int) = (16 : Int) ∧ false = false ∧ (1152921504606846976 : Int) = (1152921504606846976 : Int) ∧ (65535 : Int) = (65535 : Int) ∧ false = false ∧ IntKind.u64.wrap (puV_d s x) = (↑x'.n : Int) ∧ XV.sl 0 1 0 s.size = XV.sl 0 1 0 s.size ∧ (↑s.size : Int) = (↑s.size : Int) ∧ (↑x.i : Int) + (1 : Int) = (↑x'.i : Int) ∧ (((5 : TypeId) = (5 : TypeId) ∧ false = false ∧ (1 : Nat) = (1 : Nat)) ∧ s.size = s.size ∧ ∀ (j : Nat), j < s.size → [X8 (sbyte s (↑j : Int))] = [X8 (sbyte s (↑j : Int))]) ∧ True)))) ∧ ((decide ((48 : Int) ≤ sbyte s (↑((0 : Nat) + (↑x.i : Int).toNat) : Int)) && decide (sbyte s (↑((0 : Nat) + (↑x.i : Int).toNat) : Int) ≤ (57 : Int))) = false → ((decide ((97 : Int) ≤ bits BinOp.or IntKind.u8 (sbyte s (↑((0 : Nat) + (↑x.i : Int).toNat) : Int)) 32) && decide (bits BinOp.or IntKind.u8 (sbyte s (↑((0 : Nat) + (↑x.i : Int).toNat) : Int)) 32 ≤ (122 : Int))) = true → (decide (IntKind.u8.wrap (IntKind.u8.wrap (bits BinOp.or IntKind.u8 (sbyte s (↑((0 : Nat) + (↑x.i : Int).toNat) : Int)) 32 - (97 : Int)) + (10 : Int)) ≥ IntKind.u8.wrap 16) = true → (pu16 s).fst = (0 : Nat) ∧ (0 : Int) = (↑(pu16 s).snd : Int) ∧ XV.v puV_c = XV.v (AV.p Value.nilIface) ∧ True ∨ (pu16 s).fst = (1 : Nat) ∧ (0 : Int) = (↑(pu16 s).snd : Int) ∧ XV.v puV_c = XV.v puV_e ∧ True ∨ (pu16 s).fst = (2 : Nat) ∧ (0 : Int) = (↑(pu16 s).snd : Int) ∧ XV.v puV_c = XV.v puV_f ∧ True ∨ False) ∧ (decide (IntKind.u8.wrap (IntKind.u8.wrap (bits BinOp.or IntKind.u8 (sbyte s (↑((0 : Nat) + (↑x.i : Int).toNat) : Int)) 32 - (97 : Int)) + (10 : Int)) ≥ IntKind.u8.wrap 16) = false → (puV_b s x) ∧ (decide ((↑x.n : Int) ≥ (1152921504606846976 : Int)) = false → ((decide (IntKind.u64.wrap (puV_a s x) < IntKind.u64.wrap ((↑x.n : Int) * IntKind.u64.wrap 16)) || decide (IntKind.u64.wrap (puV_a s x) > (65535 : Int))) = true → (pu16 s).fst = (0 : Nat) ∧ (65535 : Int) = (↑(pu16 s).snd : Int) ∧ XV.v (AV.p (Value.iface 116 (Value.int IntKind.i64 1))) = XV.v (AV.p Value.nilIface) ∧ True ∨ (pu16 s).fst = (1 : Nat) ∧ (65535 : Int) = (↑(pu16 s).snd : Int) ∧ XV.v (AV.p (Value.iface 116 (Value.int IntKind.i64 1))) = XV.v puV_e ∧ True ∨ (pu16 s).fst = (2 : Nat) ∧ (65535 : Int) = (↑(pu16 s).snd : Int) ∧ XV.v (AV.p (Value.iface 116 (Value.int IntKind.i64 1))) = XV.v puV_f ∧ True ∨ False) ∧ ((decide (IntKind.u64.wrap (puV_a s x) < IntKind.u64.wrap ((↑x.n : Int) * IntKind.u64.wrap 16)) || decide (IntKind.u64.wrap (puV_a s x) > (65535 : Int))) = false → in64 ((↑x.i : Int) + (1 : Int)) ∧ ∃ (x' : (puI s).σ), (x'.i ≤ s.size ∧ x'.n ≤ (65535 : Nat) ∧ pu x'.n (List.drop x'.i s.data.toList) = pu16 s) ∧ s.size - x'.i < s.size - x.i ∧ true = true ∧ (16 : Int) = (16 : Int) ∧ false = false ∧ (1152921504606846976 : Int) = (1152921504606846976 : Int) ∧ (65535 : Int) = (65535 : Int) ∧ false = false ∧ IntKind.u64.wrap (puV_a s x) = (↑x'.n : Int) ∧ XV.sl 0 1 0 s.size = XV.sl 0 1 0 s.size ∧ (↑s.size : Int) = (↑s.size : Int) ∧ (↑x.i : Int) + (1 : Int) = (↑x'.i : Int) ∧ (((5 : TypeId) = (5 : TypeId) ∧ false = false ∧ (1 : Nat) = (1 : Nat)) ∧ s.size = s.size ∧ ∀ (j : Nat), j < s.size → [X8 (sbyte s (↑j : Int))] = [X8 (sbyte s (↑j : Int))]) ∧ True)))) ∧ ((decide ((97 : Int) ≤ bits BinOp.or IntKind.u8 (sbyte s (↑((0 : Nat) + (↑x.i : Int).toNat) : Int)) 32) && decide (bits BinOp.or IntKind.u8 (sbyte s (↑((0 : Nat) + (↑x.i : Int).toNat) : Int)) 32 ≤ (122 : Int))) = false → (pu16 s).fst = (0 : Nat) ∧ (0 : Int) = (↑(pu16 s).snd : Int) ∧ XV.v puV_c = XV.v (AV.p Value.nilIface) ∧ True ∨ (pu16 s).fst = (1 : Nat) ∧ (0 : Int) = (↑(pu16 s).snd : Int) ∧ XV.v puV_c = XV.v puV_e ∧ True ∨ (pu16 s).fst = (2 : Nat) ∧ (0 : Int) = (↑(pu16 s).snd : Int) ∧ XV.v puV_c = XV.v puV_f ∧ True ∨ False)))) ∧ (decide ((↑x.i : Int) < (↑s.size : Int)) = false → (pu16 s).fst = (0 : Nat) ∧ (↑x.n : Int) = (↑(pu16 s).snd : Int) ∧ XV.v (AV.p Value.nilIface) = XV.v (AV.p Value.nilIface) ∧ True ∨ (pu16 s).fst = (1 : Nat) ∧ (↑x.n : Int) = (↑(pu16 s).snd : Int) ∧ XV.v (AV.p Value.nilIface) = XV.v puV_e ∧ True ∨ (pu16 s).fst = (2 : Nat) ∧ (↑x.n : Int) = (↑(pu16 s).snd : Int) ∧ XV.v (AV.p Value.nilIface) = XV.v puV_f ∧ True ∨ False))
theorem puV_eq (s : ByteArray) : puV s = (funA cxeAd Tryz.f68 (mkSc (puE s) (bodyOf Tryz.f68)) [XT s, XI 16, XI 16] (puAlts (pu16 s))) := by kernel_rfl
theorem or32' : ∀ k : Nat, k < 256 → bits .or .u8 (k : Int) 32 = (((UInt8.ofNat k ||| 32 : UInt8).toNat : Nat) : Int) := by decide +kernel
theorem or32 (c : UInt8) : bits .or .u8 (c.toNat : Int) 32 = ((c ||| 32).toNat : Int) := by
 have h := or32' c.toNat (UInt8.toNat_lt c)
 rw [UInt8.ofNat_toNat] at h
 exact h
theorem hx_1 (c : UInt8) (h : 48 ≤ c.toNat ∧ c.toNat ≤ 57) : hx c = c.toNat - 48 := if_pos h
theorem hx_2 (c : UInt8) (h : ¬ (48 ≤ c.toNat ∧ c.toNat ≤ 57)) (h2 : 97 ≤ (c ||| 32).toNat ∧ (c ||| 32).toNat ≤ 102) : hx c = (c ||| 32).toNat - 87 := (if_neg h).trans (if_pos h2)
theorem hx_3 (c : UInt8) (h : ¬ (48 ≤ c.toNat ∧ c.toNat ≤ 57)) (h2 : ¬ (97 ≤ (c ||| 32).toNat ∧ (c ||| 32).toNat ≤ 102)) : hx c = 99 := (if_neg h).trans (if_neg h2)
theorem pu_cons (n : Nat) (c : UInt8) (l : List UInt8) : pu n (c :: l) = if hx c = 99 then (2, 0) else if 65535 < n * 16 + hx c then (1, 65535) else pu (n * 16 + hx c) l := rfl
theorem pu_v (s : ByteArray) (hs : s.size ≤ 1000000) : puV s := by
 unfold puV puV_b puV_f puV_e puV_d puV_c puV_a
 have w1 : IntKind.u8.wrap 16 = 16 := by kernel_rfl
 refine ⟨fun h => ?_, fun h => ?_⟩
 ·have h : s = ⟨#[]⟩ := of_decide_eq_true h
  have e : pu16 s = (2, 0) := if_pos h
  rw [e]
  exact .inr (.inr (.inl ⟨rfl, rfl, rfl, trivial⟩))
 have hne : s ≠ ⟨#[]⟩ := of_decide_eq_false h
 refine ⟨by decide +kernel, ⟨⟨0, 0⟩, ⟨Nat.zero_le _, by decide, ?_⟩, ?_⟩, ?_⟩
 ·show pu 0 (s.data.toList.drop 0) = pu16 s
  rw [List.drop_zero]
  exact (if_neg hne).symm
 ·exact ⟨rfl, rfl, by kernel_rfl, rfl, by kernel_rfl, rfl, rfl, rfl, rfl, rfl, ⟨⟨rfl, rfl, rfl⟩, rfl, fun _ _ => rfl⟩, trivial⟩
 rintro ⟨xi, xn⟩ ⟨hi, hn, hrec⟩
 have hi : xi ≤ s.size := hi
 have hn : xn ≤ 65535 := hn
 have hrec : pu xn (s.data.toList.drop xi) = pu16 s := hrec
 refine ⟨fun h => ?_, fun h => ?_⟩
 ·have hlt : xi < s.size := by
   have : (xi : Int) < (s.size : Int) := of_decide_eq_true h
   omega
  have hlt' : xi < s.data.toList.length := by rw [← size_data]; exact hlt
  have hd : s.data.toList.drop xi = s.data.toList.getD xi 0 :: s.data.toList.drop (xi + 1) := by
   rw [List.drop_eq_getElem_cons hlt', List.getD_eq_getElem?_getD, List.getElem?_eq_getElem hlt']
   rfl
  rw [hd, pu_cons] at hrec
  have ec : sbyte s ((0 + (xi : Int).toNat : Nat) : Int) = ((s.data.toList.getD xi 0).toNat : Int) := by
   unfold sbyte
   rw [show ((0 + (xi : Int).toNat : Nat) : Int).toNat = xi by omega]
  generalize s.data.toList.getD xi 0 = c at hrec ec
  have hc := UInt8.toNat_lt c
  have h64 : in64 ((xi : Int) + 1) := by unfold in64; omega
  dsimp only
  rw [ec, or32]
  generalize hk : (c ||| 32).toNat = k
  have hk8 : k < 256 := by rw [← hk]; exact UInt8.toNat_lt _
  have w2 : IntKind.u64.wrap ((xn : Int) * IntKind.u64.wrap 16) = ((xn * 16 : Nat) : Int) := by
   rw [w16, wrapu_in (by omega) (by omega)]
   omega
  have syn : hx c = 99 → pu16 s = (2, 0) := fun e => by rw [← hrec, if_pos e]
  have rng : hx c ≠ 99 → 65535 < xn * 16 + hx c → pu16 s = (1, 65535) := fun e e2 => by rw [← hrec, if_neg e, if_pos e2]
  have nxt : hx c ≠ 99 → ¬ 65535 < xn * 16 + hx c → pu (xn * 16 + hx c) (s.data.toList.drop (xi + 1)) = pu16 s := fun e e2 => by rw [← hrec, if_neg e, if_neg e2]
  have body : ∀ (d : Int) (dd : Nat), d = (dd : Int) → hx c ≠ 99 → hx c = dd → dd < 256 →
    IntKind.u64.wrap (IntKind.u64.wrap ((xn : Int) * IntKind.u64.wrap 16) + IntKind.u64.wrap d) = ((xn * 16 + dd : Nat) : Int) := fun d dd e1 e2 e3 e4 => by
   rw [w2, e1, wrapu_in (i := (dd : Int)) (by omega) (by omega), wrapu_in (by omega) (by omega)]
   omega
  refine ⟨by omega, by omega, by omega, fun h0 => absurd h0 (by simp), fun _ => ⟨fun h => h, fun h => h, fun hA => ?_, fun hA => ⟨fun hB => ?_, fun hB => ?_⟩⟩⟩
  ·have hA' : 48 ≤ c.toNat ∧ c.toNat ≤ 57 := by
    simp only [Bool.and_eq_true, decide_eq_true_eq] at hA
    omega
   have e := hx_1 c hA'
   have ew : IntKind.u8.wrap ((c.toNat : Int) - 48) = ((c.toNat - 48 : Nat) : Int) := by
    rw [wrap8_in (by omega) (by omega)]
    omega
   have hb := body _ _ ew (by omega) e (by omega)
   rw [hb, ew, w1, w2]
   refine ⟨fun h1 => ?_, fun _ => ⟨fun h1 => ?_, fun _ => ⟨fun h1 => ?_, fun h1 => ⟨h64, ⟨xi + 1, xn * 16 + (c.toNat - 48)⟩, ?_⟩⟩⟩⟩
   ·have := of_decide_eq_true h1
    omega
   ·have := of_decide_eq_true h1
    omega
   ·have h1 : 65535 < xn * 16 + (c.toNat - 48) := by
     simp only [Bool.or_eq_true, decide_eq_true_eq] at h1
     omega
    rw [rng (by omega) (by omega)]
    exact .inr (.inl ⟨rfl, rfl, rfl, trivial⟩)
   ·have h1 : ¬ 65535 < xn * 16 + (c.toNat - 48) := by
     simp only [Bool.or_eq_false_iff, decide_eq_false_iff_not] at h1
     omega
    have h2 := nxt (by omega) (by omega)
    rw [e] at h2
    exact ⟨⟨hlt, by show xn * 16 + (c.toNat - 48) ≤ 65535; omega, h2⟩, by show s.size - (xi + 1) < s.size - xi; omega, rfl, rfl, rfl, rfl, rfl, rfl, rfl, rfl, rfl, rfl, ⟨⟨rfl, rfl, rfl⟩, rfl, fun _ _ => rfl⟩, trivial⟩
  ·have hA' : ¬ (48 ≤ c.toNat ∧ c.toNat ≤ 57) := by
    intro h
    rw [decide_eq_true (by omega), decide_eq_true (by omega)] at hA
    exact absurd hA (by decide)
   have hB' : 97 ≤ k ∧ k ≤ 122 := by
    simp only [Bool.and_eq_true, decide_eq_true_eq] at hB
    omega
   have ew : IntKind.u8.wrap (IntKind.u8.wrap ((k : Int) - 97) + 10) = ((k - 87 : Nat) : Int) := by
    rw [wrap8_in (n := (k : Int) - 97) (by omega) (by omega), wrap8_in (by omega) (by omega)]
    omega
   by_cases hk2 : k ≤ 102
   ·have e := hx_2 c hA' (by rw [hk]; omega)
    rw [hk] at e
    have hb := body _ _ ew (by omega) e (by omega)
    rw [hb, ew, w1, w2]
    refine ⟨fun h1 => ?_, fun _ => ⟨fun h1 => ?_, fun _ => ⟨fun h1 => ?_, fun h1 => ⟨h64, ⟨xi + 1, xn * 16 + (k - 87)⟩, ?_⟩⟩⟩⟩
    ·have := of_decide_eq_true h1
     omega
    ·have := of_decide_eq_true h1
     omega
    ·have h1 : 65535 < xn * 16 + (k - 87) := by
      simp only [Bool.or_eq_true, decide_eq_true_eq] at h1
      omega
     rw [rng (by omega) (by omega)]
     exact .inr (.inl ⟨rfl, rfl, rfl, trivial⟩)
    ·have h1 : ¬ 65535 < xn * 16 + (k - 87) := by
      simp only [Bool.or_eq_false_iff, decide_eq_false_iff_not] at h1
      omega
     have h2 := nxt (by omega) (by omega)
     rw [e] at h2
     exact ⟨⟨hlt, by show xn * 16 + (k - 87) ≤ 65535; omega, h2⟩, by show s.size - (xi + 1) < s.size - xi; omega, rfl, rfl, rfl, rfl, rfl, rfl, rfl, rfl, rfl, rfl, ⟨⟨rfl, rfl, rfl⟩, rfl, fun _ _ => rfl⟩, trivial⟩
   ·have e := hx_3 c hA' (by rw [hk]; omega)
    rw [ew, w1]
    refine ⟨fun _ => ?_, fun h1 => ?_⟩
    ·rw [syn e]
     exact .inr (.inr (.inl ⟨rfl, rfl, rfl, trivial⟩))
    ·have : ¬ ((k - 87 : Nat) : Int) ≥ 16 := of_decide_eq_false h1
     omega
  ·have hA' : ¬ (48 ≤ c.toNat ∧ c.toNat ≤ 57) := by
    intro h
    rw [decide_eq_true (by omega), decide_eq_true (by omega)] at hA
    exact absurd hA (by decide)
   have e := hx_3 c hA' (by
    intro h
    rw [hk] at h
    rw [decide_eq_true (by omega), decide_eq_true (by omega)] at hB
    exact absurd hB (by decide))
   rw [syn e]
   exact .inr (.inr (.inl ⟨rfl, rfl, rfl, trivial⟩))
 ·have hge : xi = s.size := by
   have : ¬ (xi : Int) < (s.size : Int) := of_decide_eq_false h
   omega
  rw [hge, List.drop_eq_nil_of_le (by rw [← size_data]; exact Nat.le_refl _)] at hrec
  have e : pu16 s = (0, xn) := hrec.symm
  rw [e]
  exact .inl ⟨rfl, rfl, rfl, trivial⟩
def p10 (s : ByteArray) : Nat × Nat := match Lib.parseUintB 8 s.data.toList with
 | .ok u => (0, u)
 | .range => (1, 255)
 | _ => (2, 0)
def puC : AT := fun args => match args with
 | [.v (.p (.string s)), .v (.p (.int .i64 b)), .v (.p (.int .i64 k))] => match decide (b = 16) with
  | true => some ([s.size ≤ 1000000, k = 16], puAlts (pu16 s))
  | false => some ([s.size ≤ 1000000, b = 10, k = 8], puAlts (p10 s))
 | _ => none
def puC16 : AT := fun args => match args with
 | [.v (.p (.string s)), .v (.p (.int .i64 b)), .v (.p (.int .i64 k))] => match decide (b = 16) with
  | true => some ([s.size ≤ 1000000, k = 16], puAlts (pu16 s))
  | false => none
 | _ => none
def puC10 : AT := fun args => match args with
 | [.v (.p (.string s)), .v (.p (.int .i64 b)), .v (.p (.int .i64 k))] => match decide (b = 16) with
  | true => none
  | false => some ([s.size ≤ 1000000, b = 10, k = 8], puAlts (p10 s))
 | _ => none
theorem puAlts_pd (r : Nat × Nat) : ∀ a ∈ puAlts r, a.2.pd = true := by
 intro a ha
 unfold puAlts at ha
 simp only [List.mem_cons, List.not_mem_nil, or_false] at ha
 rcases ha with rfl | rfl | rfl <;> rfl
theorem pu16_ok : ATok Tryz.prog 68 puC16 := at_ok cxeAd_ok Tryz.func68 rfl (by decide) fun args cs v hC hc => by
 unfold puC16 at hC
 split at hC
 ·rename_i s b k
  split at hC
  ·rename_i hb
   obtain rfl : b = 16 := of_decide_eq_true hb
   simp only [Option.some.injEq, Prod.mk.injEq] at hC
   obtain ⟨rfl, rfl⟩ := hC
   have h1 : s.size ≤ 1000000 := hc _ (by simp)
   obtain rfl : k = 16 := hc _ (by simp)
   exact ⟨[XT s, XI 16, XI 16], by kernel_rfl, rfl, rfl, fun _ _ _ h => h, puAlts_pd _, mkSc (puE s) (bodyOf Tryz.f68), by rw [← puV_eq s]; exact pu_v s h1⟩
  ·cases hC
 ·cases hC
theorem at8_ret (s : ByteArray) : ∃ a ∈ puAlts (p10 s), a.1 ∧ ∀ (L : GH) (w : World), VS L w (toAV a.2) (Lib.uintTupleM 116 255 (Lib.parseUintB 8 s.data.toList)) := by
 unfold p10
 generalize Lib.parseUintB 8 s.data.toList = r
 split
 ·refine ⟨_, .head _, rfl, fun L w => ?_⟩
  simp only [toAV, toAVL, VS]
  exact ⟨[_, _], rfl, by simp [VSL, VS, eNil, toAV]⟩
 ·refine ⟨_, .tail _ (.head _), rfl, fun L w => ?_⟩
  simp only [toAV, toAVL, VS]
  exact ⟨[_, _], rfl, by simp [VSL, VS, eNum, toAV]⟩
 ·rename_i h1 h2
  refine ⟨_, .tail _ (.tail _ (.head _)), rfl, fun L w => ?_⟩
  cases r with
  | ok u => exact absurd rfl (h1 u)
  | range => exact absurd rfl h2
  | _ =>
   simp only [toAV, toAVL, VS]
   exact ⟨[_, _], rfl, by simp [VSL, VS, eNum, toAV]⟩
theorem pu10_ok : ATok Tryz.prog 68 puC10 := at_lib Tryz.func68 rfl (by decide) fun args cs v hC hc => by
 unfold puC10 at hC
 split at hC
 ·rename_i s b k
  split at hC
  ·cases hC
  ·simp only [Option.some.injEq, Prod.mk.injEq] at hC
   obtain ⟨rfl, rfl⟩ := hC
   have h1 : s.size ≤ 1000000 := hc _ (by simp)
   obtain rfl : b = 10 := hc _ (by simp)
   obtain rfl : k = 8 := hc _ (by simp)
   refine ⟨rfl, puAlts_pd _, fun L w xs hg hfr hv => ?_⟩
   have := VSL_map_p (l := [.string s, .int .i64 10, .int .i64 8]) (xs := xs) (show VSL L w [AV.p (.string s), AV.p (.int .i64 10), AV.p (.int .i64 8)] xs from hv)
   subst this
   obtain ⟨a, ha, hp, hvs⟩ := at8_ret s
   refine (Tryz.internal_strconv_ParseUint_10_at8 s (by omega) w).mono fun e w' ⟨he, hw⟩ => ⟨a, ha, hp, _, he, hvs L w', ?_⟩
   rcases hw with rfl | rfl
   ·exact Below.refl _ _
   ·exact Lib.bytesWorld_below w 5 s
 ·cases hC
theorem puC_or (args : List XV) : puC args = puC16 args ∨ puC args = puC10 args := by
 unfold puC puC16 puC10
 split
 ·split
  ·exact .inl rfl
  ·exact .inr rfl
 ·exact .inl rfl
theorem atok_or {P : Program} {f : FuncId} {C C1 C2 : AT} (h1 : ATok P f C1) (h2 : ATok P f C2) (h : ∀ args, C args = C1 args ∨ C args = C2 args) : ATok P f C :=
 ⟨h1.1, fun args cs alts hC hc => by
  rcases h args with e | e
  ·exact h1.2 args cs alts (e ▸ hC) hc
  ·exact h2.2 args cs alts (e ▸ hC) hc⟩
theorem puN_ok : ATok Tryz.prog 68 puC := atok_or pu16_ok pu10_ok puC_or
def eSome : XV := .v (.iface 118 .top)
def teC : AT := fun args => match args with
 | [.v (.p (.string fn)), .v (.p (.string s)), .v (.p (.int .i64 b)), .v (.p (.int .i64 k)), .v (.p (.iface t (.int .i64 c)))] => some ([s.size ≤ 1000000, t = 116, c = 1 ∨ c = 2], [(True, eSome)])
 | _ => none
theorem glb_ifc {L : GH} {w : World} (hg : Glb L w) {g : Nat} (hm : (g, [GV.ifc]) ∈ glbT) : ∃ ev, w.cell? ⟨g, 0, none⟩ = some ev ∧ (ev = .nilIface ∨ ∃ te pe, ev = .iface te pe) := by
 obtain ⟨-, -, h, -⟩ := hg g [GV.ifc] hm
 obtain ⟨x, hx, hi, -⟩ := h 0 .ifc rfl
 exact ⟨x, hx, hi⟩
theorem te_ok : ATok Tryz.prog 69 teC := at_lib Tryz.func69 rfl (by decide) fun args cs v hC hc => by
 unfold teC at hC
 split at hC
 ·rename_i fn s b k t c
  simp only [Option.some.injEq, Prod.mk.injEq] at hC
  obtain ⟨rfl, rfl⟩ := hC
  have h1 : s.size ≤ 1000000 := hc _ (by simp)
  obtain rfl : t = 116 := hc _ (by simp)
  have h3 : c = 1 ∨ c = 2 := hc _ (by simp)
  refine ⟨rfl, fun a ha => by obtain rfl := List.mem_singleton.1 ha; rfl, fun L w xs hg hfr hv => ?_⟩
  have := VSL_map_p (l := [.string fn, .string s, .int .i64 b, .int .i64 k, .iface 116 (.int .i64 c)]) (xs := xs) (show VSL L w [AV.p (.string fn), AV.p (.string s), AV.p (.int .i64 b), AV.p (.int .i64 k), AV.p (.iface 116 (.int .i64 c))] xs from hv)
  subst this
  obtain ⟨ev1, g1, k1⟩ := glb_ifc hg (g := 4) (by unfold glbT; repeat first | exact List.Mem.head _ | refine List.Mem.tail _ ?_)
  obtain ⟨ev2, g2, k2⟩ := glb_ifc hg (g := 5) (by unfold glbT; repeat first | exact List.Mem.head _ | refine List.Mem.tail _ ?_)
  rcases h3 with rfl | rfl
  ·refine (Tryz.strconv_toError_range fn s b k ev2 w (by omega) g2 k2).mono fun e w' ⟨N, he, _, _, hw⟩ => ⟨_, .head _, trivial, _, he, ?_, hw⟩
   exact ⟨_, rfl, trivial⟩
  ·refine (Tryz.strconv_toError_syntax fn s b k ev1 w (by omega) g1 k1).mono fun e w' ⟨N, he, _, _, hw⟩ => ⟨_, .head _, trivial, _, he, ?_, hw⟩
   exact ⟨_, rfl, trivial⟩
 ·cases hC
end Go.Proofs.YtkjcoehblekpdaaGreatDoorAv
namespace Go.Proofs.YtkjcoehblekpdaaGreatDoorAv
open Go Go.RowKit
def byteO : XV → Option Int
 | .v (.p (.int .u8 i)) => some i
 | _ => none
def byteD (x : XV) : Int := (byteO x).getD 0
theorem byteO_eq {x : XV} {i : Int} (h : byteO x = some i) : x = X8 i := by
 unfold byteO at h
 split at h
 ·rw [Option.some.inj h]
 ·cases h
def adr (g : Nat → Int) : XV := .agg [X8 (g 0), X8 (g 1), X8 (g 2), X8 (g 3), X8 (g 4), X8 (g 5), X8 (g 6), X8 (g 7), X8 (g 8), X8 (g 9), X8 (g 10), X8 (g 11), X8 (g 12), X8 (g 13), X8 (g 14), X8 (g 15)]
def is4 (g : Nat → Int) : Bool := g 0 == 0 && (g 1 == 0 && (g 2 == 0 && (g 3 == 0 && (g 4 == 0 && (g 5 == 0 && (g 6 == 0 && (g 7 == 0 && (g 8 == 0 && (g 9 == 0 && (g 10 == 255 && (g 11 == 255 && true)))))))))))
def is4V (g : Nat → Int) : Prop :=
 (0 : Int) ≤ (0 : Int) ∧ (0 : Int) ≤ (12 : Int) ∧ (12 : Int) ≤ (↑(16 : Nat) : Int) ∧ (12 : Nat) ≤ (12 : Nat) ∧ (g 0 == (0 : Int) && (g 1 == (0 : Int) && (g 2 == (0 : Int) && (g 3 == (0 : Int) && (g 4 == (0 : Int) && (g 5 == (0 : Int) && (g 6 == (0 : Int) && (g 7 == (0 : Int) && (g 8 == (0 : Int) && (g 9 == (0 : Int) && (g 10 == (255 : Int) && (g 11 == (255 : Int) && true)))))))))))) = is4 g
theorem is4V_eq (g : Nat → Int) : is4V g = (funC cx0 Tryz.f19 .nil [adr g] (XB (is4 g))) := by kernel_rfl
def v4 (a b c d : Int) : Nat → Int := fun i => [0, 0, 0, 0, 0, 0, 0, 0, 0, 0, 255, 255, a, b, c, d].getD i 0
def v4V (a b c d : Int) : Prop :=
 (0 : Int) = v4 a b c d 0 ∧ (0 : Int) = v4 a b c d 1 ∧ (0 : Int) = v4 a b c d 2 ∧ (0 : Int) = v4 a b c d 3 ∧ (0 : Int) = v4 a b c d 4 ∧ (0 : Int) = v4 a b c d 5 ∧ (0 : Int) = v4 a b c d 6 ∧ (0 : Int) = v4 a b c d 7 ∧ (0 : Int) = v4 a b c d 8 ∧ (0 : Int) = v4 a b c d 9 ∧ (255 : Int) = v4 a b c d 10 ∧ (255 : Int) = v4 a b c d 11 ∧ a = v4 a b c d 12 ∧ b = v4 a b c d 13 ∧ c = v4 a b c d 14 ∧ d = v4 a b c d 15 ∧ True
theorem v4V_eq (a b c d : Int) : v4V a b c d = (funC cx0 Tryz.f13 .nil [X8 a, X8 b, X8 c, X8 d] (adr (v4 a b c d))) := by kernel_rfl
structure IXAd where
 i : Nat
theorem is4_v (g : Nat → Int) : is4V g := ⟨by omega, by omega, by omega, by omega, rfl⟩
theorem v4_v (a b c d : Int) : v4V a b c d := ⟨rfl, rfl, rfl, rfl, rfl, rfl, rfl, rfl, rfl, rfl, rfl, rfl, rfl, rfl, rfl, rfl, trivial⟩
def v4C : CT := fun args => match args with
 | [.v (.p (.int .u8 a)), .v (.p (.int .u8 b)), .v (.p (.int .u8 c)), .v (.p (.int .u8 d))] => some ([], adr (v4 a b c d))
 | _ => none
theorem v4_ok : CTok Tryz.prog 13 v4C := ct_ok2 cx0_ok Tryz.func13 rfl (by decide) fun args cs v hC hc => by
 unfold v4C at hC
 split at hC
 ·rename_i a b c d
  simp only [Option.some.injEq, Prod.mk.injEq] at hC
  obtain ⟨rfl, rfl⟩ := hC
  exact ⟨[X8 a, X8 b, X8 c, X8 d], by kernel_rfl, rfl, rfl, fun _ _ _ h => h, rfl, exv (v4V_eq a b c d) (v4_v a b c d)⟩
 ·cases hC
theorem get16 (g : Nat → Int) : ∀ j, j < 16 → [g 0, g 1, g 2, g 3, g 4, g 5, g 6, g 7, g 8, g 9, g 10, g 11, g 12, g 13, g 14, g 15].getD j 0 = g j
 | 0, _ => rfl | 1, _ => rfl | 2, _ => rfl | 3, _ => rfl | 4, _ => rfl | 5, _ => rfl | 6, _ => rfl | 7, _ => rfl
 | 8, _ => rfl | 9, _ => rfl | 10, _ => rfl | 11, _ => rfl | 12, _ => rfl | 13, _ => rfl | 14, _ => rfl | 15, _ => rfl
 | n + 16, h => absurd h (by omega)
end Go.Proofs.YtkjcoehblekpdaaGreatDoorAv
namespace Go.Proofs.YtkjcoehblekpdaaGreatDoorAv
open Go Go.RowKit
def cxfAd : Cx := { cx0 with L := [(68, itA puC), (69, itA teC)] }
theorem cxfAd_ok : cxfAd.ok Tryz.prog := (cx0_ok.addL (itA_ok te_ok)).addL (itA_ok puN_ok)
def ppE : Env := { dec := [3] }
def cxgAd : Cx := { cxfAd with C := [(13, v4C), (21, splitC), (31, cutC)], L := (47, inl cxfAd Tryz.f47 fun _ _ => mkSc ppE (bodyOf Tryz.f47)) :: cxfAd.L }
theorem cxgAd_ok : cxgAd.ok Tryz.prog := (((cxfAd_ok.addL (inl_ok cxfAd_ok Tryz.func47 rfl (by decide) _)).addC cut_ok).addC split_ok).addC v4_ok
def pcs (l : List ByteArray) (i : Nat) : ByteArray := l.getD i ⟨#[]⟩
def fourF (l : List ByteArray) (i : Nat) : Nat → Int := fun k => if k < i then IntKind.u8.wrap ((p10 (pcs l k)).2 : Int) else 0
def zeroA : Nat → Int := fun _ => 0
def fourOk (l : List ByteArray) : Nat → Bool
 | 0 => true
 | i + 1 => fourOk l i && decide ((p10 (pcs l i)).1 = 0)
def fourP (s : ByteArray) : List ByteArray := splitS s ⟨#[46]⟩
def four (s : ByteArray) : (Nat → Int) × Bool := if (fourP s).length = 4 ∧ fourOk (fourP s) 4 = true then (v4 (fourF (fourP s) 4 0) (fourF (fourP s) 4 1) (fourF (fourP s) 4 2) (fourF (fourP s) 4 3), true) else (zeroA, false)
def foI (s : ByteArray) : Inv where
 σ := IXAd
 S := fun x => ⟨[(2, .ptr 0 0 0 0), (3, XB false), (5, .ptr 1 0 0 0), (16, strsL (fourP s)), (17, XI (fourP s).length), (18, XI x.i)],
  [(0, .one 27 true [X8 0, X8 0, X8 0, X8 0, X8 0, X8 0, X8 0, X8 0, X8 0, X8 0, X8 0, X8 0, X8 0, X8 0, X8 0, X8 0]), (1, .one 73 true [X8 (fourF (fourP s) x.i 0), X8 (fourF (fourP s) x.i 1), X8 (fourF (fourP s) x.i 2), X8 (fourF (fourP s) x.i 3)])], 2, false, []⟩
 inv := fun x => x.i ≤ (fourP s).length ∧ fourOk (fourP s) x.i = true
 μ := fun x => (fourP s).length - x.i
def foE (s : ByteArray) : Env := { loops := [(0, foI s)], dec := [10] }
def foV_a (s : ByteArray) (x : IXAd) :=
 ([fourF (fourP s) x.i 0, fourF (fourP s) x.i 1, fourF (fourP s) x.i 2, fourF (fourP s) x.i 3].getD ((0 : Nat)) 0)
def foV_b (s : ByteArray) (x : IXAd) :=
 ([fourF (fourP s) x.i 0, fourF (fourP s) x.i 1, fourF (fourP s) x.i 2, fourF (fourP s) x.i 3].getD ((1 : Nat)) 0)
def foV_c (s : ByteArray) (x : IXAd) :=
 ([fourF (fourP s) x.i 0, fourF (fourP s) x.i 1, fourF (fourP s) x.i 2, fourF (fourP s) x.i 3].getD ((2 : Nat)) 0)
def foV_d (s : ByteArray) (x : IXAd) :=
 ([fourF (fourP s) x.i 0, fourF (fourP s) x.i 1, fourF (fourP s) x.i 2, fourF (fourP s) x.i 3].getD ((3 : Nat)) 0)
def foV_e (s : ByteArray) :=
 ((0 : Int) = (four s).fst 0 ∧ (0 : Int) = (four s).fst 1 ∧ (0 : Int) = (four s).fst 2 ∧ (0 : Int) = (four s).fst 3 ∧ (0 : Int) = (four s).fst 4 ∧ (0 : Int) = (four s).fst 5 ∧ (0 : Int) = (four s).fst 6 ∧ (0 : Int) = (four s).fst 7 ∧ (0 : Int) = (four s).fst 8 ∧ (0 : Int) = (four s).fst 9 ∧ (0 : Int) = (four s).fst 10 ∧ (0 : Int) = (four s).fst 11 ∧ (0 : Int) = (four s).fst 12 ∧ (0 : Int) = (four s).fst 13 ∧ (0 : Int) = (four s).fst 14 ∧ (0 : Int) = (four s).fst 15 ∧ True)
def foV_f (s : ByteArray) (x : IXAd) :=
 ((fourP s).getD (↑x.i : Int).toNat ⟨#[]⟩)
def foV (s : ByteArray) : Prop :=
 s.size < (4294967281 : Nat) ∧ (1 : Nat) ≤ (1 : Nat) ∧ (((↑(splitS s ⟨#[46]⟩).length : Int) != (4 : Int)) = true → (foV_e s) ∧ false = (four s).snd ∧ True) ∧ (((↑(splitS s ⟨#[46]⟩).length : Int) != (4 : Int)) = false → (∃ (x : (foI s).σ), (x.i ≤ (fourP s).length ∧ fourOk (fourP s) x.i = true) ∧ true = true ∧ XV.ptr 0 0 0 0 = XV.ptr 0 0 0 0 ∧ false = false ∧ XV.ptr ((0 : Nat) + (1 : Nat)) 0 0 0 = XV.ptr 1 0 0 0 ∧ ((XV.fz (splitS s ⟨#[46]⟩).length 1 fun (i : Nat) => [XT ((splitS s ⟨#[46]⟩).getD i ⟨#[]⟩)]) = XV.fz (fourP s).length 1 fun (i : Nat) => [XT ((fourP s).getD i ⟨#[]⟩)]) ∧ (↑(splitS s ⟨#[46]⟩).length : Int) = (↑(fourP s).length : Int) ∧ (0 : Int) = (↑x.i : Int) ∧ (((27 : Nat) = (27 : TypeId) ∧ true = true) ∧ (0 : Int) = (0 : Int) ∧ (0 : Int) = (0 : Int) ∧ (0 : Int) = (0 : Int) ∧ (0 : Int) = (0 : Int) ∧ (0 : Int) = (0 : Int) ∧ (0 : Int) = (0 : Int) ∧ (0 : Int) = (0 : Int) ∧ (0 : Int) = (0 : Int) ∧ (0 : Int) = (0 : Int) ∧ (0 : Int) = (0 : Int) ∧ (0 : Int) = (0 : Int) ∧ (0 : Int) = (0 : Int) ∧ (0 : Int) = (0 : Int) ∧ (0 : Int) = (0 : Int) ∧ (0 : Int) = (0 : Int) ∧ (0 : Int) = (0 : Int) ∧ True) ∧ (((73 : Nat) = (73 : TypeId) ∧ true = true) ∧ (0 : Int) = fourF (fourP s) x.i 0 ∧ (0 : Int) = fourF (fourP s) x.i 1 ∧ (0 : Int) = fourF (fourP s) x.i 2 ∧ (0 : Int) = fourF (fourP s) x.i 3 ∧ True) ∧ True) ∧ ∀ (x : IXAd), x.i ≤ (fourP s).length ∧ fourOk (fourP s) x.i = true → (decide ((↑x.i : Int) < (↑(fourP s).length : Int)) = true → (0 : Int) ≤ (↑x.i : Int) ∧ (↑x.i : Int) < (↑(fourP s).length : Int) ∧ (foV_f s x).size ≤ (1000000 : Nat) ∧ (10 : Int) = (10 : Int) ∧ (8 : Int) = (8 : Int) ∧ ((p10 (foV_f s x)).fst = (0 : Nat) → (0 : Int) ≤ (↑x.i : Int) ∧ (↑x.i : Int) < (↑(4 : Nat) : Int) ∧ (↑x.i : Int).toNat < [fourF (fourP s) x.i 0, fourF (fourP s) x.i 1, fourF (fourP s) x.i 2, fourF (fourP s) x.i 3].length ∧ in64 ((↑x.i : Int) + (1 : Int)) ∧ ∃ (x' : (foI s).σ), (x'.i ≤ (fourP s).length ∧ fourOk (fourP s) x'.i = true) ∧ (fourP s).length - x'.i < (fourP s).length - x.i ∧ true = true ∧ XV.ptr 0 0 0 0 = XV.ptr 0 0 0 0 ∧ false = false ∧ XV.ptr 1 0 0 0 = XV.ptr 1 0 0 0 ∧ ((XV.fz (fourP s).length 1 fun (i : Nat) => [XT ((fourP s).getD i ⟨#[]⟩)]) = XV.fz (fourP s).length 1 fun (i : Nat) => [XT ((fourP s).getD i ⟨#[]⟩)]) ∧ (↑(fourP s).length : Int) = (↑(fourP s).length : Int) ∧ (↑x.i : Int) + (1 : Int) = (↑x'.i : Int) ∧ (((27 : TypeId) = (27 : TypeId) ∧ true = true) ∧ (0 : Int) = (0 : Int) ∧ (0 : Int) = (0 : Int) ∧ (0 : Int) = (0 : Int) ∧ (0 : Int) = (0 : Int) ∧ (0 : Int) = (0 : Int) ∧ (0 : Int) = (0 : Int) ∧ (0 : Int) = (0 : Int) ∧ (0 : Int) = (0 : Int) ∧ (0 : Int) = (0 : Int) ∧ (0 : Int) = (0 : Int) ∧ (0 : Int) = (0 : Int) ∧ (0 : Int) = (0 : Int) ∧ (0 : Int) = (0 : Int) ∧ (0 : Int) = (0 : Int) ∧ (0 : Int) = (0 : Int) ∧ (0 : Int) = (0 : Int) ∧ True) ∧ (((73 : TypeId) = (73 : TypeId) ∧ true = true) ∧ (bif (↑x.i : Int).toNat.beq 0 then IntKind.u8.wrap (↑(p10 (foV_f s x)).snd : Int) else fourF (fourP s) x.i 0) = fourF (fourP s) x'.i 0 ∧ (bif (↑x.i : Int).toNat.beq ((1 : Nat)) then IntKind.u8.wrap (↑(p10 (foV_f s x)).snd : Int) else fourF (fourP s) x.i 1) = fourF (fourP s) x'.i 1 ∧ (bif (↑x.i : Int).toNat.beq ((2 : Nat)) then IntKind.u8.wrap (↑(p10 (foV_f s x)).snd : Int) else fourF (fourP s) x.i 2) = fourF (fourP s) x'.i 2 ∧ (bif (↑x.i : Int).toNat.beq ((3 : Nat)) then IntKind.u8.wrap (↑(p10 (foV_f s x)).snd : Int) else fourF (fourP s) x.i 3) = fourF (fourP s) x'.i 3 ∧ True) ∧ True) ∧ ((p10 (foV_f s x)).fst = (1 : Nat) → (foV_f s x).size ≤ (1000000 : Nat) ∧ (116 : TypeId) = (116 : TypeId) ∧ ((1 : Int) = (1 : Int) ∨ (1 : Int) = (2 : Int)) ∧ (True → (foV_e s) ∧ false = (four s).snd ∧ True) ∧ True) ∧ ((p10 (foV_f s x)).fst = (2 : Nat) → (foV_f s x).size ≤ (1000000 : Nat) ∧ (116 : TypeId) = (116 : TypeId) ∧ ((2 : Int) = (1 : Int) ∨ (2 : Int) = (2 : Int)) ∧ (True → (foV_e s) ∧ false = (four s).snd ∧ True) ∧ True) ∧ True) ∧ (decide ((↑x.i : Int) < (↑(fourP s).length : Int)) = false → (0 : Int) ≤ (0 : Int) ∧ (0 : Int) < (↑(4 : Nat) : Int) ∧ (0 : Nat) < [fourF (fourP s) x.i 0, fourF (fourP s) x.i 1, fourF (fourP s) x.i 2, fourF (fourP s) x.i 3].length ∧ (0 : Int) ≤ (1 : Int) ∧ (1 : Int) < (↑(4 : Nat) : Int) ∧ (1 : Nat) < [fourF (fourP s) x.i 0, fourF (fourP s) x.i 1, fourF (fourP s) x.i 2, fourF (fourP s) x.i 3].length ∧ (0 : Int) ≤ (2 : Int) ∧ (2 : Int) < (↑(4 : Nat) : Int) ∧ (2 : Nat) < [fourF (fourP s) x.i 0, fourF (fourP s) x.i 1, fourF (fourP s) x.i 2, fourF (fourP s) x.i 3].length ∧ (0 : Int) ≤ (3 : Int) ∧ (3 : Int) < (↑(4 : Nat) : Int) ∧ (3 : Nat) < [fourF (fourP s) x.i 0, fourF (fourP s) x.i 1, fourF (fourP s) x.i 2, fourF (fourP s) x.i 3].length ∧ (v4 (foV_a s x) (foV_b s x) (foV_c s x) (foV_d s x) 0 = (four s).fst 0 ∧ v4 (foV_a s x) (foV_b s x) (foV_c s x) (foV_d s x) 1 = (four s).fst 1 ∧ v4 (foV_a s x) (foV_b s x) (foV_c s x) (foV_d s x) 2 = (four s).fst 2 ∧ v4 (foV_a s x) (foV_b s x) (foV_c s x) (foV_d s x) 3 = (four s).fst 3 ∧ v4 (foV_a s x) (foV_b s x) (foV_c s x) (foV_d s x) 4 = (four s).fst 4 ∧ v4 (foV_a s x) (foV_b s x) (foV_c s x) (foV_d s x) 5 = (four s).fst 5 ∧ v4 (foV_a s x) (foV_b s x) (foV_c s x) (foV_d s x) 6 = (four s).fst 6 ∧ v4 (foV_a s x) (foV_b s x) (foV_c s x) (foV_d s x) 7 = (four s).fst 7 ∧ v4 (foV_a s x) (foV_b s x) (foV_c s x) (foV_d s x) 8 = (four s).fst 8 ∧ v4 (foV_a s x) (foV_b s x) (foV_c s x) (foV_d s x) 9 = (four s).fst 9 ∧ v4 (foV_a s x) (foV_b s x) (foV_c s x) (foV_d s x) 10 = (four s).fst 10 ∧ v4 (foV_a s x) (foV_b s x) (foV_c s x) (foV_d s x) 11 = (four s).fst 11 ∧ v4 (foV_a s x) (foV_b s x) (foV_c s x) (foV_d s x) 12 = (four s).fst 12 ∧ v4 (foV_a s x) (foV_b s x) (foV_c s x) (foV_d s x) 13 = (four s).fst 13 ∧ v4 (foV_a s x) (foV_b s x) (foV_c s x) (foV_d s x) 14 = (four s).fst 14 ∧ v4 (foV_a s x) (foV_b s x) (foV_c s x) (foV_d s x) 15 = (four s).fst 15 ∧ True) ∧ true = (four s).snd ∧ True))
theorem foV_eq (s : ByteArray) : foV s = (funC cxgAd Tryz.f33 (mkSc (foE s) (bodyOf Tryz.f33)) [XT s] (.tup [adr (four s).1, XB (four s).2])) := by kernel_rfl
theorem pieces_size (s : ByteArray) (c : UInt8) (i : Nat) : (pcs (splitS s ⟨#[c]⟩) i).size ≤ s.size := by
 unfold pcs
 rw [List.getD_eq_getElem?_getD]
 cases h : (splitS s ⟨#[c]⟩)[i]? with
 | none => exact Nat.zero_le _
 | some x =>
  have hx := List.mem_of_getElem? h
  rw [splitS_one] at hx
  obtain ⟨y, hy, rfl⟩ := List.mem_map.1 hx
  have := split1_each c _ y hy
  show (mk8 y).size ≤ _
  rw [mk8_size, size_data s]
  exact this
theorem fourF_succ (l : List ByteArray) (i k : Nat) : (bif i.beq k then IntKind.u8.wrap ((p10 (pcs l i)).2 : Int) else fourF l i k) = fourF l (i + 1) k := by
 unfold fourF
 rw [beqN]
 by_cases e : i = k
 ·subst e
  rw [decide_eq_true rfl, cond_true, if_pos (by omega)]
 ·rw [decide_eq_false e, cond_false]
  by_cases h : k < i
  ·rw [if_pos h, if_pos (by omega)]
  ·rw [if_neg h, if_neg (by omega)]
theorem fourOk_le (l : List ByteArray) : ∀ m, fourOk l m = true → ∀ k, k < m → (p10 (pcs l k)).1 = 0
 | m + 1, h, k, hk => by
  unfold fourOk at h
  simp only [Bool.and_eq_true, decide_eq_true_eq] at h
  by_cases e : k = m
  ·rw [e]; exact h.2
  ·exact fourOk_le l m h.1 k (by omega)
theorem fo_v (s : ByteArray) (hs : s.size ≤ 1000000) : foV s := by
 unfold foV foV_f foV_e foV_d foV_c foV_b foV_a
 have bad : ¬ ((fourP s).length = 4 ∧ fourOk (fourP s) 4 = true) → four s = (zeroA, false) := fun h => if_neg h
 refine ⟨by omega, by omega, fun h => ?_, fun h => ⟨⟨⟨0⟩, ⟨Nat.zero_le _, rfl⟩, ?_⟩, ?_⟩⟩
 ·have hn : (fourP s).length ≠ 4 := by
   intro e
   have h : ((fourP s).length : Int) != 4 := h
   rw [e] at h
   exact absurd h (by decide)
  rw [bad (fun e => hn e.1)]
  exact ⟨⟨rfl, rfl, rfl, rfl, rfl, rfl, rfl, rfl, rfl, rfl, rfl, rfl, rfl, rfl, rfl, rfl, trivial⟩, rfl, trivial⟩
 ·and_intros <;> first | with_reducible rfl | exact rfl | trivial
 have hn : (fourP s).length = 4 := by
  have h : (((fourP s).length : Int) != 4) = false := h
  have h : ((fourP s).length : Int) = 4 := by simpa using h
  omega
 rintro ⟨i⟩ ⟨hi, hok⟩
 have hi : i ≤ (fourP s).length := hi
 have hok : fourOk (fourP s) i = true := hok
 refine ⟨fun h1 => ?_, fun h1 => ?_⟩
 ·have hlt : i < 4 := by
   have : (i : Int) < ((fourP s).length : Int) := of_decide_eq_true h1
   omega
  have hsz := pieces_size s 46 i
  have hsz' : (pcs (fourP s) i).size ≤ 1000000 := by
   have : (pcs (fourP s) i).size ≤ s.size := hsz
   omega
  have stop : (p10 (pcs (fourP s) i)).1 ≠ 0 → four s = (zeroA, false) := fun h => bad fun e => h (fourOk_le _ 4 e.2 i hlt)
  refine ⟨by omega, by dsimp only; omega, hsz', rfl, rfl, fun h2 => ?_, fun h2 => ⟨hsz', rfl, .inl rfl, fun _ => ?_, trivial⟩, fun h2 => ⟨hsz', rfl, .inr rfl, fun _ => ?_, trivial⟩, trivial⟩
  ·refine ⟨by omega, by dsimp only; omega, by show i < 4; omega, by unfold in64; dsimp only; omega, ⟨i + 1⟩, ⟨by show i + 1 ≤ _; omega, ?_⟩, by show _ - (i + 1) < _ - i; omega, rfl, rfl, rfl, rfl, rfl, rfl, rfl, ⟨⟨rfl, rfl⟩, rfl, rfl, rfl, rfl, rfl, rfl, rfl, rfl, rfl, rfl, rfl, rfl, rfl, rfl, rfl, rfl, trivial⟩, ⟨⟨rfl, rfl⟩, fourF_succ _ i 0, fourF_succ _ i 1, fourF_succ _ i 2, fourF_succ _ i 3, trivial⟩, trivial⟩
   show (fourOk (fourP s) i && decide ((p10 (pcs (fourP s) i)).1 = 0)) = true
   have h2' : (p10 (pcs (fourP s) i)).1 = 0 := h2
   rw [hok, h2']
   rfl
  ·have h2' : (p10 (pcs (fourP s) i)).1 = 1 := h2
   rw [stop (by omega)]
   exact ⟨⟨rfl, rfl, rfl, rfl, rfl, rfl, rfl, rfl, rfl, rfl, rfl, rfl, rfl, rfl, rfl, rfl, trivial⟩, rfl, trivial⟩
  ·have h2' : (p10 (pcs (fourP s) i)).1 = 2 := h2
   rw [stop (by omega)]
   exact ⟨⟨rfl, rfl, rfl, rfl, rfl, rfl, rfl, rfl, rfl, rfl, rfl, rfl, rfl, rfl, rfl, rfl, trivial⟩, rfl, trivial⟩
 ·have hge : i = 4 := by
   have : ¬ (i : Int) < ((fourP s).length : Int) := of_decide_eq_false h1
   omega
  subst hge
  have e : four s = (v4 (fourF (fourP s) 4 0) (fourF (fourP s) 4 1) (fourF (fourP s) 4 2) (fourF (fourP s) 4 3), true) := if_pos ⟨hn, hok⟩
  rw [e]
  exact ⟨by omega, by omega, by show 0 < 4; omega, by omega, by omega, by show 1 < 4; omega, by omega, by omega, by show 2 < 4; omega, by omega, by omega, by show 3 < 4; omega, ⟨rfl, rfl, rfl, rfl, rfl, rfl, rfl, rfl, rfl, rfl, rfl, rfl, rfl, rfl, rfl, rfl, trivial⟩, rfl, trivial⟩
theorem fo_ok : CTok Tryz.prog 33 (C1 dStr (fun s => [s.size ≤ 1000000]) fun s => .tup [adr (four s).1, XB (four s).2]) := C1_ok cxgAd_ok Tryz.func33 rfl (by decide) dStr_eq.ok (by kernel_rfl) (fun _ => rfl) fun s hc => exv (foV_eq s) (fo_v s (hc _ (by simp)))
end Go.Proofs.YtkjcoehblekpdaaGreatDoorAv
