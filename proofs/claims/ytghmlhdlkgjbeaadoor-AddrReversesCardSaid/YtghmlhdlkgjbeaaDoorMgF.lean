/- Own texts, put together: LaA; AdH; AdP; AdQ; AdR; AdI; AvRow; RsRowG; AvCard; AvArr; AdRow. -/
import Derived.Test.YtghmlhdlkgjbeaaDoorMgE
import Derived.OpenShut
import Derived.SliceStrings
import Derived.ChangeSlices
import Derived.SizedLaws
import Derived.Carry
import Derived.Lib.LaidTab
import Derived.Shelf.Vars
import Derived.WideKeyArr2
import Derived.Test.YtghmlhdlkgjbeaaDoorRows
set_option linter.unusedVariables false
set_option linter.unusedSimpArgs false
set_option maxRecDepth 100000
namespace Go.Proofs.YtghmlhdlkgjbeaaDoorAv
open Go Go.RowKit
/-- Does a label end at place i? -/
def laE (s : ByteArray) (i : Nat) : Prop := (i : Int) = s.size ∨ sbyte s i = 46
instance (s : ByteArray) (i : Nat) : Decidable (laE s i) := inferInstanceAs (Decidable (_ ∨ _))
def laF (s : ByteArray) : Nat → Nat
  | 0 => 0
  | i + 1 => if laE s i then i + 1 else laF s i
def laO (s : ByteArray) : Nat → List ByteArray
  | 0 => []
  | i + 1 => if laE s i then laO s i ++ [s.extract (laF s i) i] else laO s i
structure IL where
  i : Nat
def laI (s : ByteArray) : Inv where
  σ := IL
  S := fun x => ⟨[(0, XT s), (2, Xnil), (3, .sl 0 1 0 (laO s x.i).length), (4, XI (laF s x.i)), (8, XI ((s.size : Int) + 1)), (9, XI x.i)], [(0, .vec 9 true (laO s x.i).length 1 fun j => [XT ((laO s x.i).getD j ⟨#[]⟩)])], 1, false, []⟩
  inv := fun x => x.i ≤ s.size + 1
  μ := fun x => s.size + 1 - x.i
def laEn (s : ByteArray) : Env := { loops := [(0, laI s)], own := [(2, [(3, 9, 1)])], frz := [(10, [3])] }
def laV (s : ByteArray) : Prop :=
  in64 ((↑s.size : Int) + (1 : Int)) ∧ (∃ (x : (laI s).σ), x.i.le (s.size + (1 : Nat)) ∧ true = true ∧ s = s ∧ Xnil = Xnil ∧ XV.sl (0 : Nat) (1 : Nat) (0 : Nat) (0 : Nat) = XV.sl (0 : Nat) (1 : Nat) (0 : Nat) (laO s x.i).length ∧ (0 : Int) = (↑(laF s x.i) : Int) ∧ (↑s.size : Int) + (1 : Int) = (↑s.size : Int) + (1 : Int) ∧ (0 : Int) = (↑x.i : Int) ∧ (((9 : Nat) = (9 : TypeId) ∧ true = true ∧ (1 : Nat) = (1 : Nat)) ∧ (0 : Nat) = (laO s x.i).length ∧ ∀ (j : Nat), j < (0 : Nat) → [] = [XT ((laO s x.i).getD j { data := #[] : ByteArray })]) ∧ True) ∧ ∀ (x : IL), x.i.le (s.size + (1 : Nat)) → (decide ((↑x.i : Int) < (↑s.size : Int) + (1 : Int)) = true → ((!(↑x.i : Int) == (↑s.size : Int)) = true → (0 : Int) ≤ (↑x.i : Int)) ∧ ((!(↑x.i : Int) == (↑s.size : Int)) = true → (↑x.i : Int) < (↑s.size : Int)) ∧ (((↑x.i : Int) == (↑s.size : Int) || sbyte s (↑x.i : Int) == (46 : Int)) = true → (0 : Int) ≤ (↑(laF s x.i) : Int) ∧ (↑(laF s x.i) : Int) ≤ (↑x.i : Int) ∧ (↑x.i : Int) ≤ (↑s.size : Int) ∧ (laO s x.i).length = (laO s x.i).length ∧ ((laO s x.i).length + (1 : Nat)) * (16 : Nat) ≤ (140737488355328 : Nat) ∧ (laO s x.i).length + (1 : Nat) ≤ (140737488355328 : Nat) ∧ in64 ((↑x.i : Int) + (1 : Int)) ∧ in64 ((↑x.i : Int) + (1 : Int)) ∧ ∃ (x' : (laI s).σ), x'.i.le (s.size + (1 : Nat)) ∧ s.size + (1 : Nat) - x'.i < s.size + (1 : Nat) - x.i ∧ true = true ∧ s = s ∧ Xnil = Xnil ∧ XV.sl (0 : Nat) (1 : Nat) (0 : Nat) ((laO s x.i).length + (1 : Nat)) = XV.sl (0 : Nat) (1 : Nat) (0 : Nat) (laO s x'.i).length ∧ (↑x.i : Int) + (1 : Int) = (↑(laF s x'.i) : Int) ∧ (↑s.size : Int) + (1 : Int) = (↑s.size : Int) + (1 : Int) ∧ (↑x.i : Int) + (1 : Int) = (↑x'.i : Int) ∧ (((9 : TypeId) = (9 : TypeId) ∧ true = true ∧ (1 : Nat) = (1 : Nat)) ∧ (laO s x.i).length + (1 : Nat) = (laO s x'.i).length ∧ ∀ (j : Nat), j < (laO s x.i).length + (1 : Nat) → [XT (bif j.blt (laO s x.i).length then (laO s x.i).getD j { data := #[] : ByteArray } else s.extract (↑(laF s x.i) : Int).toNat (↑x.i : Int).toNat)] = [XT ((laO s x'.i).getD j { data := #[] : ByteArray })]) ∧ True) ∧ (((↑x.i : Int) == (↑s.size : Int) || sbyte s (↑x.i : Int) == (46 : Int)) = false → in64 ((↑x.i : Int) + (1 : Int)) ∧ ∃ (x' : (laI s).σ), x'.i.le (s.size + (1 : Nat)) ∧ s.size + (1 : Nat) - x'.i < s.size + (1 : Nat) - x.i ∧ true = true ∧ s = s ∧ Xnil = Xnil ∧ XV.sl (0 : Nat) (1 : Nat) (0 : Nat) (laO s x.i).length = XV.sl (0 : Nat) (1 : Nat) (0 : Nat) (laO s x'.i).length ∧ (↑(laF s x.i) : Int) = (↑(laF s x'.i) : Int) ∧ (↑s.size : Int) + (1 : Int) = (↑s.size : Int) + (1 : Int) ∧ (↑x.i : Int) + (1 : Int) = (↑x'.i : Int) ∧ (((9 : TypeId) = (9 : TypeId) ∧ true = true ∧ (1 : Nat) = (1 : Nat)) ∧ (laO s x.i).length = (laO s x'.i).length ∧ ∀ (j : Nat), j < (laO s x.i).length → [XT ((laO s x.i).getD j { data := #[] : ByteArray })] = [XT ((laO s x'.i).getD j { data := #[] : ByteArray })]) ∧ True)) ∧ (decide ((↑x.i : Int) < (↑s.size : Int) + (1 : Int)) = false → (laO s x.i).length = (laO s x.i).length ∧ (1 : Nat) = (1 : Nat) ∧ (laO s x.i).length = (laO s (s.size + (1 : Nat))).length ∧ ∀ (j : Nat), j < (laO s x.i).length → [XT ((laO s x.i).getD j { data := #[] : ByteArray })] = [XT ((laO s (s.size + (1 : Nat))).getD j { data := #[] : ByteArray })])
theorem laV_eq (s : ByteArray) : laV s = (funC cx0 Tryd.f18 (mkSc (laEn s) (bodyOf Tryd.f18)) [XT s] (strsL (laO s (s.size + 1)))) := by kernel_rfl
/-- Texts with points between. -/
def ljF (g : Nat → ByteArray) : Nat → ByteArray
  | 0 => ⟨#[]⟩
  | i + 1 => (if 0 < i then ljF g i ++ ⟨#[46]⟩ else ljF g i) ++ g i
def ljI (q : Sq ByteArray) : Inv where
  σ := IL
  S := fun x => ⟨[(2, XT ⟨#[]⟩), (3, XT (ljF q.g x.i)), (6, sqX 1 (fun s => [XT s]) q), (7, XI q.n), (8, XI x.i)], [], 0, false, []⟩
  inv := fun x => x.i ≤ q.n
  μ := fun x => q.n - x.i
def ljE (q : Sq ByteArray) : Env := { loops := [(0, ljI q)] }
def ljV (q : Sq ByteArray) : Prop :=
  (∃ (x : (ljI q).σ), x.i.le q.n ∧ true = true ∧ { data := #[] : ByteArray } = { data := #[] : ByteArray } ∧ { data := #[] : ByteArray } = ljF q.g x.i ∧ ((XV.fz q.n (1 : Nat) fun (i : Nat) => [XT (q.g i)]) = XV.fz q.n (1 : Nat) fun (i : Nat) => [XT (q.g i)]) ∧ (↑q.n : Int) = (↑q.n : Int) ∧ (0 : Int) = (↑x.i : Int) ∧ True) ∧ ∀ (x : IL), x.i.le q.n → (decide ((↑x.i : Int) < (↑q.n : Int)) = true → (0 : Int) ≤ (↑x.i : Int) ∧ (↑x.i : Int) < (↑q.n : Int) ∧ (decide ((↑x.i : Int) > (0 : Int)) = true → (ljF q.g x.i).size + (1 : Nat) ≤ (9223372036854775807 : Nat) ∧ (ljF q.g x.i ++ { data := #[(46 : UInt8)] : ByteArray }).size + (q.g (↑x.i : Int).toNat).size ≤ (9223372036854775807 : Nat) ∧ in64 ((↑x.i : Int) + (1 : Int)) ∧ ∃ (x' : (ljI q).σ), x'.i.le q.n ∧ q.n - x'.i < q.n - x.i ∧ true = true ∧ { data := #[] : ByteArray } = { data := #[] : ByteArray } ∧ ljF q.g x.i ++ { data := #[(46 : UInt8)] : ByteArray } ++ q.g (↑x.i : Int).toNat = ljF q.g x'.i ∧ ((XV.fz q.n (1 : Nat) fun (i : Nat) => [XT (q.g i)]) = XV.fz q.n (1 : Nat) fun (i : Nat) => [XT (q.g i)]) ∧ (↑q.n : Int) = (↑q.n : Int) ∧ (↑x.i : Int) + (1 : Int) = (↑x'.i : Int) ∧ True) ∧ (decide ((↑x.i : Int) > (0 : Int)) = false → (ljF q.g x.i).size + (q.g (↑x.i : Int).toNat).size ≤ (9223372036854775807 : Nat) ∧ in64 ((↑x.i : Int) + (1 : Int)) ∧ ∃ (x' : (ljI q).σ), x'.i.le q.n ∧ q.n - x'.i < q.n - x.i ∧ true = true ∧ { data := #[] : ByteArray } = { data := #[] : ByteArray } ∧ ljF q.g x.i ++ q.g (↑x.i : Int).toNat = ljF q.g x'.i ∧ ((XV.fz q.n (1 : Nat) fun (i : Nat) => [XT (q.g i)]) = XV.fz q.n (1 : Nat) fun (i : Nat) => [XT (q.g i)]) ∧ (↑q.n : Int) = (↑q.n : Int) ∧ (↑x.i : Int) + (1 : Int) = (↑x'.i : Int) ∧ True)) ∧ (decide ((↑x.i : Int) < (↑q.n : Int)) = false → ljF q.g x.i = ljF q.g q.n)
theorem ljV_eq (q : Sq ByteArray) : ljV q = (funC cx0 Tryd.f19 (mkSc (ljE q) (bodyOf Tryd.f19)) [sqX 1 (fun s => [XT s]) q] (XT (ljF q.g q.n))) := by kernel_rfl
theorem laF_le (s : ByteArray) : ∀ i, laF s i ≤ i
  | 0 => Nat.le_refl _
  | i + 1 => by
    have := laF_le s i
    rw [laF]
    split <;> omega
theorem laO_le (s : ByteArray) : ∀ i, (laO s i).length ≤ i
  | 0 => Nat.le_refl _
  | i + 1 => by
    have := laO_le s i
    rw [laO]
    split
    · rw [List.length_append]; show _ + 1 ≤ _; omega
    · omega
theorem split1_snoc (c b : UInt8) : ∀ (l : List UInt8) (A : List (List UInt8)) (x : List UInt8), split1 c l = A ++ [x] → split1 c (l ++ [b]) = if b = c then A ++ [x, []] else A ++ [x ++ [b]]
  | [], A, x, h => by
    have h : [[]] = A ++ [x] := h
    cases A with
    | nil =>
      obtain rfl : [] = x := by simpa using h
      show (if b = c then [] :: split1 c [] else match split1 c [] with | h :: t => (b :: h) :: t | [] => [[b]]) = _
      split <;> rfl
    | cons a A =>
      have := congrArg List.length h
      simp at this
  | a :: l, A, x, h => by
    rw [List.cons_append]
    unfold split1 at h ⊢
    by_cases e : a = c
    · rw [if_pos e] at h ⊢
      cases A with
      | nil =>
        simp at h
        exact absurd h.2 (split1_ne c l)
      | cons a' A =>
        rw [List.cons_append, List.cons.injEq] at h
        obtain ⟨rfl, h⟩ := h
        rw [split1_snoc c b l A x h]
        split <;> rfl
    · rw [if_neg e] at h ⊢
      cases hl : split1 c l with
      | nil => exact absurd hl (split1_ne c l)
      | cons y t =>
        rw [hl] at h
        have h : (a :: y) :: t = A ++ [x] := h
        cases A with
        | nil =>
          simp at h
          obtain ⟨rfl, rfl⟩ := h
          rw [split1_snoc c b l [] y hl]
          by_cases hb : b = c
          · rw [if_pos hb, if_pos hb]; rfl
          · rw [if_neg hb, if_neg hb]; rfl
        | cons a' A =>
          rw [List.cons_append, List.cons.injEq] at h
          obtain ⟨rfl, rfl⟩ := h
          rw [split1_snoc c b l (y :: A) x hl]
          by_cases hb : b = c
          · rw [if_pos hb, if_pos hb]; rfl
          · rw [if_neg hb, if_neg hb]; rfl
theorem sbyte_at (s : ByteArray) (i : Nat) : sbyte s i = ((s.data.toList.getD i 0).toNat : Int) := rfl
theorem laE_lt (s : ByteArray) (i : Nat) (h : i < s.size) : laE s i ↔ s.data.toList.getD i 0 = 46 := by
  unfold laE
  rw [sbyte_at]
  constructor
  · rintro (h1 | h1)
    · omega
    · apply UInt8.toNat_inj.1
      show _ = 46
      omega
  · intro h1
    right
    rw [h1]
    rfl
theorem ext_data (s : ByteArray) (i j : Nat) (h1 : i ≤ j) (h2 : j ≤ s.size) : (s.extract i j).data.toList = (s.data.toList.drop i).take (j - i) := by
  rw [ByteArray.data_extract, Array.toList_extract]
theorem la_split (s : ByteArray) : ∀ i, i ≤ s.size → split1 46 (s.data.toList.take i) = ((laO s i).map (·.data.toList)) ++ [(s.data.toList.take i).drop (laF s i)]
  | 0, _ => rfl
  | i + 1, h => by
    have ih := la_split s i (by omega)
    have hl : i < s.data.toList.length := by rw [← size_data]; omega
    have hf := laF_le s i
    rw [take_snoc' _ i 0 hl, split1_snoc 46 _ _ _ _ ih, laO, laF]
    by_cases e : laE s i
    · rw [if_pos e, if_pos e, if_pos ((laE_lt s i (by omega)).1 e), List.map_append, List.append_assoc]
      congr 1
      have e1 : (s.extract (laF s i) i).data.toList = (s.data.toList.take i).drop (laF s i) := by
        rw [ext_data s _ _ hf (by omega), List.drop_take]
      have e2 : (s.data.toList.take i ++ [s.data.toList.getD i 0]).drop (i + 1) = [] := by
        apply List.drop_eq_nil_of_le
        rw [List.length_append, List.length_take, List.length_singleton]
        omega
      rw [List.map_singleton, e1, e2]
      rfl
    · rw [if_neg e, if_neg e, if_neg (fun h1 => e ((laE_lt s i (by omega)).2 h1))]
      congr 2
      rw [List.drop_append_of_le_length (by rw [List.length_take]; omega)]
theorem la_out (s : ByteArray) : laO s (s.size + 1) = splitS s ⟨#[46]⟩ := by
  have h := la_split s s.size (Nat.le_refl _)
  rw [size_data s, List.take_length, ← size_data s] at h
  rw [splitS_one, h, laO, if_pos (.inl rfl), List.map_append, List.map_map]
  have e : (laO s s.size).map (mk8 ∘ (·.data.toList)) = laO s s.size := by
    conv => rhs; rw [← List.map_id (laO s s.size)]
    apply List.map_congr_left
    intro a _
    rfl
  rw [e]
  congr 1
  rw [List.map_singleton]
  congr 1
  have hf := laF_le s s.size
  rw [← data_mk8 (s.extract (laF s s.size) s.size), ext_data s _ _ hf (Nat.le_refl _)]
  congr 1
  rw [List.take_of_length_le (by rw [List.length_drop, ← size_data]; omega)]
theorem la_v (s : ByteArray) (hs : s.size ≤ 1000000000) : laV s := by
  unfold laV
  refine ⟨by unfold in64; omega, ⟨⟨0⟩, Nat.zero_le _, rfl, rfl, rfl, rfl, rfl, rfl, rfl, ⟨⟨rfl, rfl, rfl⟩, rfl, fun j hj => absurd hj (by omega)⟩, trivial⟩, ?_⟩
  rintro ⟨i⟩ hi
  have hi : i ≤ s.size + 1 := hi
  have hf := laF_le s i
  have ho := laO_le s i
  refine ⟨fun h => ?_, fun h => ?_⟩
  · have h : (i : Int) < (s.size : Int) + 1 := of_decide_eq_true h
    refine ⟨fun _ => by dsimp only; omega, fun h2 => ?_, fun h2 => ?_, fun h2 => ?_⟩
    · have h2 : ¬ (i : Int) = (s.size : Int) := fun e => by
        have h2 : (!(i : Int) == (s.size : Int)) = true := h2
        rw [beq_iff_eq.mpr e] at h2
        cases h2
      dsimp only
      omega
    · have h3 : laE s i := by
        have h2 : ((i : Int) == (s.size : Int) || sbyte s (i : Int) == 46) = true := h2
        rw [Bool.or_eq_true, beq_iff_eq, beq_iff_eq] at h2
        exact h2
      have e1 : laF s (i + 1) = i + 1 := by rw [laF, if_pos h3]
      have e2 : laO s (i + 1) = laO s i ++ [s.extract (laF s i) i] := by rw [laO, if_pos h3]
      have e3 : (laO s i).length + 1 = (laO s (i + 1)).length := by rw [e2, List.length_append]; rfl
      refine ⟨by omega, by dsimp only; omega, by dsimp only; omega, rfl, by dsimp only; omega, by dsimp only; omega, by unfold in64; dsimp only; omega, by unfold in64; dsimp only; omega, ⟨i + 1⟩, by show i + 1 ≤ s.size + 1; omega, by show s.size + 1 - (i + 1) < s.size + 1 - i; omega, rfl, rfl, rfl, ?_, ?_, rfl, rfl, ⟨⟨rfl, rfl, rfl⟩, e3, fun j hj => ?_⟩, trivial⟩
      · dsimp only; rw [e3]
      · dsimp only; rw [e1]; rfl
      · dsimp only
        rw [e2]
        exact congrArg (fun x => [XT x]) (row_app2 (laO s i) _ ⟨#[]⟩ j hj)
    · have h3 : ¬ laE s i := fun e => by
        have h2 : ((i : Int) == (s.size : Int) || sbyte s (i : Int) == 46) = false := h2
        unfold laE at e
        rw [← beq_iff_eq (a := (i : Int)), ← beq_iff_eq (a := sbyte s i), ← Bool.or_eq_true, h2] at e
        cases e
      have e1 : laF s (i + 1) = laF s i := by rw [laF, if_neg h3]
      have e2 : laO s (i + 1) = laO s i := by rw [laO, if_neg h3]
      refine ⟨by unfold in64; dsimp only; omega, ⟨i + 1⟩, by show i + 1 ≤ s.size + 1; omega, by show s.size + 1 - (i + 1) < s.size + 1 - i; omega, rfl, rfl, rfl, ?_, ?_, rfl, rfl, ⟨⟨rfl, rfl, rfl⟩, ?_, fun j hj => ?_⟩, trivial⟩
      · dsimp only; rw [e2]
      · dsimp only; rw [e1]
      · dsimp only; rw [e2]
      · dsimp only; rw [e2]
  · have h : ¬ (i : Int) < (s.size : Int) + 1 := of_decide_eq_false h
    obtain rfl : i = s.size + 1 := by omega
    exact ⟨rfl, rfl, rfl, fun _ _ => rfl⟩
def lspC : CT := C1 dStr (fun s => [s.size ≤ 1000000000]) fun s => strsL (splitS s ⟨#[46]⟩)
theorem lsp_ok : CTok Tryd.prog 18 lspC := C1_ok cx0_ok Tryd.func18 rfl (by decide) dStr_eq.ok (by kernel_rfl) (fun _ => rfl) fun s hc => by
  rw [← la_out s]
  exact exv (laV_eq s) (la_v s (hc _ (.head _)))
theorem ljF_size (g : Nat → ByteArray) (n : Nat) (h : ∀ i, i < n → (g i).size ≤ 1000000) : ∀ i, i ≤ n → (ljF g i).size ≤ 1000001 * i
  | 0, _ => Nat.le_refl _
  | i + 1, hi => by
    have ih := ljF_size g n h i (by omega)
    have hg := h i (by omega)
    rw [ljF, ByteArray.size_append]
    split
    · rw [ByteArray.size_append]
      show _ + 1 + _ ≤ _
      omega
    · omega
theorem lj_v (q : Sq ByteArray) (hn : q.n ≤ 1000) (hq : ∀ i, i < q.n → (q.g i).size ≤ 1000000) : ljV q := by
  unfold ljV
  refine ⟨⟨⟨0⟩, Nat.zero_le _, rfl, rfl, rfl, rfl, rfl, rfl, trivial⟩, ?_⟩
  rintro ⟨i⟩ hi
  have hi : i ≤ q.n := hi
  have hs := ljF_size q.g q.n hq i hi
  refine ⟨fun h => ?_, fun h => ?_⟩
  · have h : (i : Int) < (q.n : Int) := of_decide_eq_true h
    have e : (i : Int).toNat = i := by omega
    have hg := hq i (by omega)
    dsimp only
    rw [e]
    refine ⟨by omega, h, fun h2 => ?_, fun h2 => ?_⟩
    · have h2 : (i : Int) > 0 := of_decide_eq_true h2
      refine ⟨by omega, by rw [ByteArray.size_append]; show _ + 1 + _ ≤ _; omega, by unfold in64; omega, ⟨i + 1⟩, by show i + 1 ≤ q.n; omega, by show q.n - (i + 1) < q.n - i; omega, rfl, rfl, ?_, rfl, rfl, rfl, trivial⟩
      show _ = ljF q.g (i + 1)
      rw [ljF, if_pos (by omega)]
    · have h2 : ¬ (i : Int) > 0 := of_decide_eq_false h2
      refine ⟨by omega, by unfold in64; omega, ⟨i + 1⟩, by show i + 1 ≤ q.n; omega, by show q.n - (i + 1) < q.n - i; omega, rfl, rfl, ?_, rfl, rfl, rfl, trivial⟩
      show _ = ljF q.g (i + 1)
      rw [ljF, if_neg (by omega)]
  · have h : ¬ (i : Int) < (q.n : Int) := of_decide_eq_false h
    obtain rfl : i = q.n := by omega
    rfl
def ljnC : CT := C1 dStrs (fun q => [q.n ≤ 1000, ∀ i, i < q.n → (q.g i).size ≤ 1000000]) fun q => XT (ljF q.g q.n)
theorem ljn_ok : CTok Tryd.prog 19 ljnC := C1_ok cx0_ok Tryd.func19 rfl (by decide) dSl_ok (by kernel_rfl) (fun _ => rfl) fun q hc => exv (ljV_eq q) (lj_v q (hc _ (.head _)) (hc _ (.tail _ (.head _))))
end Go.Proofs.YtghmlhdlkgjbeaaDoorAv
set_option linter.unusedVariables false
set_option linter.unusedSimpArgs false
set_option maxRecDepth 100000
namespace Go.Proofs.YtghmlhdlkgjbeaaDoorAv
open Go Go.RowKit
def cxh : Cx := { cx0 with C := [(18, lspC), (13, prnC), (12, parC)] }
theorem cxh_ok : cxh.ok Tryd.prog := ((cx0_ok.addC pa_ok).addC pr_ok).addC lsp_ok
def cntN (s : ByteArray) : Int := if s = ⟨#[46]⟩ then 0 else ((splitS s ⟨#[46]⟩).length : Int)
def cntC : CT := C1 dStr (fun s => [s.size ≤ 1000000000]) fun s => XI (cntN s)
def cntV (s : ByteArray) : Prop :=
  (decide (s = { data := #[(46 : UInt8)] : ByteArray }) = true → (0 : Int) = cntN s) ∧ (decide (s = { data := #[(46 : UInt8)] : ByteArray }) = false → s.size ≤ (1000000000 : Nat) ∧ (↑(splitS s { data := #[(46 : UInt8)] : ByteArray }).length : Int) = cntN s)
theorem cntV_eq (s : ByteArray) : cntV s = (funC cxh Tryd.f20 .nil [XT s] (XI (cntN s))) := by kernel_rfl
theorem cnt_v (s : ByteArray) (hs : s.size ≤ 1000000000) : cntV s := by
  unfold cntV
  refine ⟨fun h => ?_, fun h => ⟨hs, ?_⟩⟩
  · have h : s = ⟨#[46]⟩ := of_decide_eq_true h
    exact (if_pos h).symm
  · have h : ¬ s = ⟨#[46]⟩ := of_decide_eq_false h
    exact (if_neg h).symm
theorem cnt_ok : CTok Tryd.prog 20 cntC := C1_ok cxh_ok Tryd.func20 rfl (by decide) dStr_eq.ok (by kernel_rfl) (fun _ => rfl) fun s hc => exv (cntV_eq s) (cnt_v s (hc _ (.head _)))
def cxi : Cx := { cxh with C := (20, cntC) :: cxh.C }
theorem cxi_ok : cxi.ok Tryd.prog := cxh_ok.addC cnt_ok
def fitV  : Prop :=
  (11 : Nat) ≤ (1000000 : Nat) ∧ ((parN { data := #[(50 : UInt8), (48 : UInt8), (48 : UInt8), (49 : UInt8), (58 : UInt8), (100 : UInt8), (98 : UInt8), (56 : UInt8), (58 : UInt8), (58 : UInt8), (49 : UInt8)] : ByteArray } == (0 : Int)) = true → (0 : Int) ≤ (0 : Int)) ∧ ((parN { data := #[(50 : UInt8), (48 : UInt8), (48 : UInt8), (49 : UInt8), (58 : UInt8), (100 : UInt8), (98 : UInt8), (56 : UInt8), (58 : UInt8), (58 : UInt8), (49 : UInt8)] : ByteArray } == (0 : Int)) = true → (0 : Int) < (↑(16 : Nat) : Int)) ∧ ((parN { data := #[(50 : UInt8), (48 : UInt8), (48 : UInt8), (49 : UInt8), (58 : UInt8), (100 : UInt8), (98 : UInt8), (56 : UInt8), (58 : UInt8), (58 : UInt8), (49 : UInt8)] : ByteArray } == (0 : Int)) = true → (0 : Nat) < (16 : Nat)) ∧ ((parN { data := #[(50 : UInt8), (48 : UInt8), (48 : UInt8), (49 : UInt8), (58 : UInt8), (100 : UInt8), (98 : UInt8), (56 : UInt8), (58 : UInt8), (58 : UInt8), (49 : UInt8)] : ByteArray } == (0 : Int) && [parA { data := #[(50 : UInt8), (48 : UInt8), (48 : UInt8), (49 : UInt8), (58 : UInt8), (100 : UInt8), (98 : UInt8), (56 : UInt8), (58 : UInt8), (58 : UInt8), (49 : UInt8)] : ByteArray } (0 : Nat), parA { data := #[(50 : UInt8), (48 : UInt8), (48 : UInt8), (49 : UInt8), (58 : UInt8), (100 : UInt8), (98 : UInt8), (56 : UInt8), (58 : UInt8), (58 : UInt8), (49 : UInt8)] : ByteArray } (1 : Nat), parA { data := #[(50 : UInt8), (48 : UInt8), (48 : UInt8), (49 : UInt8), (58 : UInt8), (100 : UInt8), (98 : UInt8), (56 : UInt8), (58 : UInt8), (58 : UInt8), (49 : UInt8)] : ByteArray } (2 : Nat), parA { data := #[(50 : UInt8), (48 : UInt8), (48 : UInt8), (49 : UInt8), (58 : UInt8), (100 : UInt8), (98 : UInt8), (56 : UInt8), (58 : UInt8), (58 : UInt8), (49 : UInt8)] : ByteArray } (3 : Nat), parA { data := #[(50 : UInt8), (48 : UInt8), (48 : UInt8), (49 : UInt8), (58 : UInt8), (100 : UInt8), (98 : UInt8), (56 : UInt8), (58 : UInt8), (58 : UInt8), (49 : UInt8)] : ByteArray } (4 : Nat), parA { data := #[(50 : UInt8), (48 : UInt8), (48 : UInt8), (49 : UInt8), (58 : UInt8), (100 : UInt8), (98 : UInt8), (56 : UInt8), (58 : UInt8), (58 : UInt8), (49 : UInt8)] : ByteArray } (5 : Nat), parA { data := #[(50 : UInt8), (48 : UInt8), (48 : UInt8), (49 : UInt8), (58 : UInt8), (100 : UInt8), (98 : UInt8), (56 : UInt8), (58 : UInt8), (58 : UInt8), (49 : UInt8)] : ByteArray } (6 : Nat), parA { data := #[(50 : UInt8), (48 : UInt8), (48 : UInt8), (49 : UInt8), (58 : UInt8), (100 : UInt8), (98 : UInt8), (56 : UInt8), (58 : UInt8), (58 : UInt8), (49 : UInt8)] : ByteArray } (7 : Nat), parA { data := #[(50 : UInt8), (48 : UInt8), (48 : UInt8), (49 : UInt8), (58 : UInt8), (100 : UInt8), (98 : UInt8), (56 : UInt8), (58 : UInt8), (58 : UInt8), (49 : UInt8)] : ByteArray } (8 : Nat), parA { data := #[(50 : UInt8), (48 : UInt8), (48 : UInt8), (49 : UInt8), (58 : UInt8), (100 : UInt8), (98 : UInt8), (56 : UInt8), (58 : UInt8), (58 : UInt8), (49 : UInt8)] : ByteArray } (9 : Nat), parA { data := #[(50 : UInt8), (48 : UInt8), (48 : UInt8), (49 : UInt8), (58 : UInt8), (100 : UInt8), (98 : UInt8), (56 : UInt8), (58 : UInt8), (58 : UInt8), (49 : UInt8)] : ByteArray } (10 : Nat), parA { data := #[(50 : UInt8), (48 : UInt8), (48 : UInt8), (49 : UInt8), (58 : UInt8), (100 : UInt8), (98 : UInt8), (56 : UInt8), (58 : UInt8), (58 : UInt8), (49 : UInt8)] : ByteArray } (11 : Nat), parA { data := #[(50 : UInt8), (48 : UInt8), (48 : UInt8), (49 : UInt8), (58 : UInt8), (100 : UInt8), (98 : UInt8), (56 : UInt8), (58 : UInt8), (58 : UInt8), (49 : UInt8)] : ByteArray } (12 : Nat), parA { data := #[(50 : UInt8), (48 : UInt8), (48 : UInt8), (49 : UInt8), (58 : UInt8), (100 : UInt8), (98 : UInt8), (56 : UInt8), (58 : UInt8), (58 : UInt8), (49 : UInt8)] : ByteArray } (13 : Nat), parA { data := #[(50 : UInt8), (48 : UInt8), (48 : UInt8), (49 : UInt8), (58 : UInt8), (100 : UInt8), (98 : UInt8), (56 : UInt8), (58 : UInt8), (58 : UInt8), (49 : UInt8)] : ByteArray } (14 : Nat), parA { data := #[(50 : UInt8), (48 : UInt8), (48 : UInt8), (49 : UInt8), (58 : UInt8), (100 : UInt8), (98 : UInt8), (56 : UInt8), (58 : UInt8), (58 : UInt8), (49 : UInt8)] : ByteArray } (15 : Nat)].getD ((0 : Nat)) (0 : Int) == (32 : Int)) = true → (0 : Int) ≤ (15 : Int)) ∧ ((parN { data := #[(50 : UInt8), (48 : UInt8), (48 : UInt8), (49 : UInt8), (58 : UInt8), (100 : UInt8), (98 : UInt8), (56 : UInt8), (58 : UInt8), (58 : UInt8), (49 : UInt8)] : ByteArray } == (0 : Int) && [parA { data := #[(50 : UInt8), (48 : UInt8), (48 : UInt8), (49 : UInt8), (58 : UInt8), (100 : UInt8), (98 : UInt8), (56 : UInt8), (58 : UInt8), (58 : UInt8), (49 : UInt8)] : ByteArray } (0 : Nat), parA { data := #[(50 : UInt8), (48 : UInt8), (48 : UInt8), (49 : UInt8), (58 : UInt8), (100 : UInt8), (98 : UInt8), (56 : UInt8), (58 : UInt8), (58 : UInt8), (49 : UInt8)] : ByteArray } (1 : Nat), parA { data := #[(50 : UInt8), (48 : UInt8), (48 : UInt8), (49 : UInt8), (58 : UInt8), (100 : UInt8), (98 : UInt8), (56 : UInt8), (58 : UInt8), (58 : UInt8), (49 : UInt8)] : ByteArray } (2 : Nat), parA { data := #[(50 : UInt8), (48 : UInt8), (48 : UInt8), (49 : UInt8), (58 : UInt8), (100 : UInt8), (98 : UInt8), (56 : UInt8), (58 : UInt8), (58 : UInt8), (49 : UInt8)] : ByteArray } (3 : Nat), parA { data := #[(50 : UInt8), (48 : UInt8), (48 : UInt8), (49 : UInt8), (58 : UInt8), (100 : UInt8), (98 : UInt8), (56 : UInt8), (58 : UInt8), (58 : UInt8), (49 : UInt8)] : ByteArray } (4 : Nat), parA { data := #[(50 : UInt8), (48 : UInt8), (48 : UInt8), (49 : UInt8), (58 : UInt8), (100 : UInt8), (98 : UInt8), (56 : UInt8), (58 : UInt8), (58 : UInt8), (49 : UInt8)] : ByteArray } (5 : Nat), parA { data := #[(50 : UInt8), (48 : UInt8), (48 : UInt8), (49 : UInt8), (58 : UInt8), (100 : UInt8), (98 : UInt8), (56 : UInt8), (58 : UInt8), (58 : UInt8), (49 : UInt8)] : ByteArray } (6 : Nat), parA { data := #[(50 : UInt8), (48 : UInt8), (48 : UInt8), (49 : UInt8), (58 : UInt8), (100 : UInt8), (98 : UInt8), (56 : UInt8), (58 : UInt8), (58 : UInt8), (49 : UInt8)] : ByteArray } (7 : Nat), parA { data := #[(50 : UInt8), (48 : UInt8), (48 : UInt8), (49 : UInt8), (58 : UInt8), (100 : UInt8), (98 : UInt8), (56 : UInt8), (58 : UInt8), (58 : UInt8), (49 : UInt8)] : ByteArray } (8 : Nat), parA { data := #[(50 : UInt8), (48 : UInt8), (48 : UInt8), (49 : UInt8), (58 : UInt8), (100 : UInt8), (98 : UInt8), (56 : UInt8), (58 : UInt8), (58 : UInt8), (49 : UInt8)] : ByteArray } (9 : Nat), parA { data := #[(50 : UInt8), (48 : UInt8), (48 : UInt8), (49 : UInt8), (58 : UInt8), (100 : UInt8), (98 : UInt8), (56 : UInt8), (58 : UInt8), (58 : UInt8), (49 : UInt8)] : ByteArray } (10 : Nat), parA { data := #[(50 : UInt8), (48 : UInt8), (48 : UInt8), (49 : UInt8), (58 : UInt8), (100 : UInt8), (98 : UInt8), (56 : UInt8), (58 : UInt8), (58 : UInt8), (49 : UInt8)] : ByteArray } (11 : Nat), parA { data := #[(50 : UInt8), (48 : UInt8), (48 : UInt8), (49 : UInt8), (58 : UInt8), (100 : UInt8), (98 : UInt8), (56 : UInt8), (58 : UInt8), (58 : UInt8), (49 : UInt8)] : ByteArray } (12 : Nat), parA { data := #[(50 : UInt8), (48 : UInt8), (48 : UInt8), (49 : UInt8), (58 : UInt8), (100 : UInt8), (98 : UInt8), (56 : UInt8), (58 : UInt8), (58 : UInt8), (49 : UInt8)] : ByteArray } (13 : Nat), parA { data := #[(50 : UInt8), (48 : UInt8), (48 : UInt8), (49 : UInt8), (58 : UInt8), (100 : UInt8), (98 : UInt8), (56 : UInt8), (58 : UInt8), (58 : UInt8), (49 : UInt8)] : ByteArray } (14 : Nat), parA { data := #[(50 : UInt8), (48 : UInt8), (48 : UInt8), (49 : UInt8), (58 : UInt8), (100 : UInt8), (98 : UInt8), (56 : UInt8), (58 : UInt8), (58 : UInt8), (49 : UInt8)] : ByteArray } (15 : Nat)].getD ((0 : Nat)) (0 : Int) == (32 : Int)) = true → (15 : Int) < (↑(16 : Nat) : Int)) ∧ ((parN { data := #[(50 : UInt8), (48 : UInt8), (48 : UInt8), (49 : UInt8), (58 : UInt8), (100 : UInt8), (98 : UInt8), (56 : UInt8), (58 : UInt8), (58 : UInt8), (49 : UInt8)] : ByteArray } == (0 : Int) && [parA { data := #[(50 : UInt8), (48 : UInt8), (48 : UInt8), (49 : UInt8), (58 : UInt8), (100 : UInt8), (98 : UInt8), (56 : UInt8), (58 : UInt8), (58 : UInt8), (49 : UInt8)] : ByteArray } (0 : Nat), parA { data := #[(50 : UInt8), (48 : UInt8), (48 : UInt8), (49 : UInt8), (58 : UInt8), (100 : UInt8), (98 : UInt8), (56 : UInt8), (58 : UInt8), (58 : UInt8), (49 : UInt8)] : ByteArray } (1 : Nat), parA { data := #[(50 : UInt8), (48 : UInt8), (48 : UInt8), (49 : UInt8), (58 : UInt8), (100 : UInt8), (98 : UInt8), (56 : UInt8), (58 : UInt8), (58 : UInt8), (49 : UInt8)] : ByteArray } (2 : Nat), parA { data := #[(50 : UInt8), (48 : UInt8), (48 : UInt8), (49 : UInt8), (58 : UInt8), (100 : UInt8), (98 : UInt8), (56 : UInt8), (58 : UInt8), (58 : UInt8), (49 : UInt8)] : ByteArray } (3 : Nat), parA { data := #[(50 : UInt8), (48 : UInt8), (48 : UInt8), (49 : UInt8), (58 : UInt8), (100 : UInt8), (98 : UInt8), (56 : UInt8), (58 : UInt8), (58 : UInt8), (49 : UInt8)] : ByteArray } (4 : Nat), parA { data := #[(50 : UInt8), (48 : UInt8), (48 : UInt8), (49 : UInt8), (58 : UInt8), (100 : UInt8), (98 : UInt8), (56 : UInt8), (58 : UInt8), (58 : UInt8), (49 : UInt8)] : ByteArray } (5 : Nat), parA { data := #[(50 : UInt8), (48 : UInt8), (48 : UInt8), (49 : UInt8), (58 : UInt8), (100 : UInt8), (98 : UInt8), (56 : UInt8), (58 : UInt8), (58 : UInt8), (49 : UInt8)] : ByteArray } (6 : Nat), parA { data := #[(50 : UInt8), (48 : UInt8), (48 : UInt8), (49 : UInt8), (58 : UInt8), (100 : UInt8), (98 : UInt8), (56 : UInt8), (58 : UInt8), (58 : UInt8), (49 : UInt8)] : ByteArray } (7 : Nat), parA { data := #[(50 : UInt8), (48 : UInt8), (48 : UInt8), (49 : UInt8), (58 : UInt8), (100 : UInt8), (98 : UInt8), (56 : UInt8), (58 : UInt8), (58 : UInt8), (49 : UInt8)] : ByteArray } (8 : Nat), parA { data := #[(50 : UInt8), (48 : UInt8), (48 : UInt8), (49 : UInt8), (58 : UInt8), (100 : UInt8), (98 : UInt8), (56 : UInt8), (58 : UInt8), (58 : UInt8), (49 : UInt8)] : ByteArray } (9 : Nat), parA { data := #[(50 : UInt8), (48 : UInt8), (48 : UInt8), (49 : UInt8), (58 : UInt8), (100 : UInt8), (98 : UInt8), (56 : UInt8), (58 : UInt8), (58 : UInt8), (49 : UInt8)] : ByteArray } (10 : Nat), parA { data := #[(50 : UInt8), (48 : UInt8), (48 : UInt8), (49 : UInt8), (58 : UInt8), (100 : UInt8), (98 : UInt8), (56 : UInt8), (58 : UInt8), (58 : UInt8), (49 : UInt8)] : ByteArray } (11 : Nat), parA { data := #[(50 : UInt8), (48 : UInt8), (48 : UInt8), (49 : UInt8), (58 : UInt8), (100 : UInt8), (98 : UInt8), (56 : UInt8), (58 : UInt8), (58 : UInt8), (49 : UInt8)] : ByteArray } (12 : Nat), parA { data := #[(50 : UInt8), (48 : UInt8), (48 : UInt8), (49 : UInt8), (58 : UInt8), (100 : UInt8), (98 : UInt8), (56 : UInt8), (58 : UInt8), (58 : UInt8), (49 : UInt8)] : ByteArray } (13 : Nat), parA { data := #[(50 : UInt8), (48 : UInt8), (48 : UInt8), (49 : UInt8), (58 : UInt8), (100 : UInt8), (98 : UInt8), (56 : UInt8), (58 : UInt8), (58 : UInt8), (49 : UInt8)] : ByteArray } (14 : Nat), parA { data := #[(50 : UInt8), (48 : UInt8), (48 : UInt8), (49 : UInt8), (58 : UInt8), (100 : UInt8), (98 : UInt8), (56 : UInt8), (58 : UInt8), (58 : UInt8), (49 : UInt8)] : ByteArray } (15 : Nat)].getD ((0 : Nat)) (0 : Int) == (32 : Int)) = true → (15 : Nat) < (16 : Nat)) ∧ ((parN { data := #[(50 : UInt8), (48 : UInt8), (48 : UInt8), (49 : UInt8), (58 : UInt8), (100 : UInt8), (98 : UInt8), (56 : UInt8), (58 : UInt8), (58 : UInt8), (49 : UInt8)] : ByteArray } == (0 : Int) && [parA { data := #[(50 : UInt8), (48 : UInt8), (48 : UInt8), (49 : UInt8), (58 : UInt8), (100 : UInt8), (98 : UInt8), (56 : UInt8), (58 : UInt8), (58 : UInt8), (49 : UInt8)] : ByteArray } (0 : Nat), parA { data := #[(50 : UInt8), (48 : UInt8), (48 : UInt8), (49 : UInt8), (58 : UInt8), (100 : UInt8), (98 : UInt8), (56 : UInt8), (58 : UInt8), (58 : UInt8), (49 : UInt8)] : ByteArray } (1 : Nat), parA { data := #[(50 : UInt8), (48 : UInt8), (48 : UInt8), (49 : UInt8), (58 : UInt8), (100 : UInt8), (98 : UInt8), (56 : UInt8), (58 : UInt8), (58 : UInt8), (49 : UInt8)] : ByteArray } (2 : Nat), parA { data := #[(50 : UInt8), (48 : UInt8), (48 : UInt8), (49 : UInt8), (58 : UInt8), (100 : UInt8), (98 : UInt8), (56 : UInt8), (58 : UInt8), (58 : UInt8), (49 : UInt8)] : ByteArray } (3 : Nat), parA { data := #[(50 : UInt8), (48 : UInt8), (48 : UInt8), (49 : UInt8), (58 : UInt8), (100 : UInt8), (98 : UInt8), (56 : UInt8), (58 : UInt8), (58 : UInt8), (49 : UInt8)] : ByteArray } (4 : Nat), parA { data := #[(50 : UInt8), (48 : UInt8), (48 : UInt8), (49 : UInt8), (58 : UInt8), (100 : UInt8), (98 : UInt8), (56 : UInt8), (58 : UInt8), (58 : UInt8), (49 : UInt8)] : ByteArray } (5 : Nat), parA { data := #[(50 : UInt8), (48 : UInt8), (48 : UInt8), (49 : UInt8), (58 : UInt8), (100 : UInt8), (98 : UInt8), (56 : UInt8), (58 : UInt8), (58 : UInt8), (49 : UInt8)] : ByteArray } (6 : Nat), parA { data := #[(50 : UInt8), (48 : UInt8), (48 : UInt8), (49 : UInt8), (58 : UInt8), (100 : UInt8), (98 : UInt8), (56 : UInt8), (58 : UInt8), (58 : UInt8), (49 : UInt8)] : ByteArray } (7 : Nat), parA { data := #[(50 : UInt8), (48 : UInt8), (48 : UInt8), (49 : UInt8), (58 : UInt8), (100 : UInt8), (98 : UInt8), (56 : UInt8), (58 : UInt8), (58 : UInt8), (49 : UInt8)] : ByteArray } (8 : Nat), parA { data := #[(50 : UInt8), (48 : UInt8), (48 : UInt8), (49 : UInt8), (58 : UInt8), (100 : UInt8), (98 : UInt8), (56 : UInt8), (58 : UInt8), (58 : UInt8), (49 : UInt8)] : ByteArray } (9 : Nat), parA { data := #[(50 : UInt8), (48 : UInt8), (48 : UInt8), (49 : UInt8), (58 : UInt8), (100 : UInt8), (98 : UInt8), (56 : UInt8), (58 : UInt8), (58 : UInt8), (49 : UInt8)] : ByteArray } (10 : Nat), parA { data := #[(50 : UInt8), (48 : UInt8), (48 : UInt8), (49 : UInt8), (58 : UInt8), (100 : UInt8), (98 : UInt8), (56 : UInt8), (58 : UInt8), (58 : UInt8), (49 : UInt8)] : ByteArray } (11 : Nat), parA { data := #[(50 : UInt8), (48 : UInt8), (48 : UInt8), (49 : UInt8), (58 : UInt8), (100 : UInt8), (98 : UInt8), (56 : UInt8), (58 : UInt8), (58 : UInt8), (49 : UInt8)] : ByteArray } (12 : Nat), parA { data := #[(50 : UInt8), (48 : UInt8), (48 : UInt8), (49 : UInt8), (58 : UInt8), (100 : UInt8), (98 : UInt8), (56 : UInt8), (58 : UInt8), (58 : UInt8), (49 : UInt8)] : ByteArray } (13 : Nat), parA { data := #[(50 : UInt8), (48 : UInt8), (48 : UInt8), (49 : UInt8), (58 : UInt8), (100 : UInt8), (98 : UInt8), (56 : UInt8), (58 : UInt8), (58 : UInt8), (49 : UInt8)] : ByteArray } (14 : Nat), parA { data := #[(50 : UInt8), (48 : UInt8), (48 : UInt8), (49 : UInt8), (58 : UInt8), (100 : UInt8), (98 : UInt8), (56 : UInt8), (58 : UInt8), (58 : UInt8), (49 : UInt8)] : ByteArray } (15 : Nat)].getD ((0 : Nat)) (0 : Int) == (32 : Int) && [parA { data := #[(50 : UInt8), (48 : UInt8), (48 : UInt8), (49 : UInt8), (58 : UInt8), (100 : UInt8), (98 : UInt8), (56 : UInt8), (58 : UInt8), (58 : UInt8), (49 : UInt8)] : ByteArray } (0 : Nat), parA { data := #[(50 : UInt8), (48 : UInt8), (48 : UInt8), (49 : UInt8), (58 : UInt8), (100 : UInt8), (98 : UInt8), (56 : UInt8), (58 : UInt8), (58 : UInt8), (49 : UInt8)] : ByteArray } (1 : Nat), parA { data := #[(50 : UInt8), (48 : UInt8), (48 : UInt8), (49 : UInt8), (58 : UInt8), (100 : UInt8), (98 : UInt8), (56 : UInt8), (58 : UInt8), (58 : UInt8), (49 : UInt8)] : ByteArray } (2 : Nat), parA { data := #[(50 : UInt8), (48 : UInt8), (48 : UInt8), (49 : UInt8), (58 : UInt8), (100 : UInt8), (98 : UInt8), (56 : UInt8), (58 : UInt8), (58 : UInt8), (49 : UInt8)] : ByteArray } (3 : Nat), parA { data := #[(50 : UInt8), (48 : UInt8), (48 : UInt8), (49 : UInt8), (58 : UInt8), (100 : UInt8), (98 : UInt8), (56 : UInt8), (58 : UInt8), (58 : UInt8), (49 : UInt8)] : ByteArray } (4 : Nat), parA { data := #[(50 : UInt8), (48 : UInt8), (48 : UInt8), (49 : UInt8), (58 : UInt8), (100 : UInt8), (98 : UInt8), (56 : UInt8), (58 : UInt8), (58 : UInt8), (49 : UInt8)] : ByteArray } (5 : Nat), parA { data := #[(50 : UInt8), (48 : UInt8), (48 : UInt8), (49 : UInt8), (58 : UInt8), (100 : UInt8), (98 : UInt8), (56 : UInt8), (58 : UInt8), (58 : UInt8), (49 : UInt8)] : ByteArray } (6 : Nat), parA { data := #[(50 : UInt8), (48 : UInt8), (48 : UInt8), (49 : UInt8), (58 : UInt8), (100 : UInt8), (98 : UInt8), (56 : UInt8), (58 : UInt8), (58 : UInt8), (49 : UInt8)] : ByteArray } (7 : Nat), parA { data := #[(50 : UInt8), (48 : UInt8), (48 : UInt8), (49 : UInt8), (58 : UInt8), (100 : UInt8), (98 : UInt8), (56 : UInt8), (58 : UInt8), (58 : UInt8), (49 : UInt8)] : ByteArray } (8 : Nat), parA { data := #[(50 : UInt8), (48 : UInt8), (48 : UInt8), (49 : UInt8), (58 : UInt8), (100 : UInt8), (98 : UInt8), (56 : UInt8), (58 : UInt8), (58 : UInt8), (49 : UInt8)] : ByteArray } (9 : Nat), parA { data := #[(50 : UInt8), (48 : UInt8), (48 : UInt8), (49 : UInt8), (58 : UInt8), (100 : UInt8), (98 : UInt8), (56 : UInt8), (58 : UInt8), (58 : UInt8), (49 : UInt8)] : ByteArray } (10 : Nat), parA { data := #[(50 : UInt8), (48 : UInt8), (48 : UInt8), (49 : UInt8), (58 : UInt8), (100 : UInt8), (98 : UInt8), (56 : UInt8), (58 : UInt8), (58 : UInt8), (49 : UInt8)] : ByteArray } (11 : Nat), parA { data := #[(50 : UInt8), (48 : UInt8), (48 : UInt8), (49 : UInt8), (58 : UInt8), (100 : UInt8), (98 : UInt8), (56 : UInt8), (58 : UInt8), (58 : UInt8), (49 : UInt8)] : ByteArray } (12 : Nat), parA { data := #[(50 : UInt8), (48 : UInt8), (48 : UInt8), (49 : UInt8), (58 : UInt8), (100 : UInt8), (98 : UInt8), (56 : UInt8), (58 : UInt8), (58 : UInt8), (49 : UInt8)] : ByteArray } (13 : Nat), parA { data := #[(50 : UInt8), (48 : UInt8), (48 : UInt8), (49 : UInt8), (58 : UInt8), (100 : UInt8), (98 : UInt8), (56 : UInt8), (58 : UInt8), (58 : UInt8), (49 : UInt8)] : ByteArray } (14 : Nat), parA { data := #[(50 : UInt8), (48 : UInt8), (48 : UInt8), (49 : UInt8), (58 : UInt8), (100 : UInt8), (98 : UInt8), (56 : UInt8), (58 : UInt8), (58 : UInt8), (49 : UInt8)] : ByteArray } (15 : Nat)].getD ((15 : Nat)) (0 : Int) == (1 : Int)) = true → b16 fun (i : Nat) => [(0 : Int), (0 : Int), (0 : Int), (0 : Int), (0 : Int), (0 : Int), (0 : Int), (0 : Int), (0 : Int), (0 : Int), (0 : Int), (0 : Int), (0 : Int), (0 : Int), (0 : Int), (1 : Int)].getD i (0 : Int)) ∧ ((parN { data := #[(50 : UInt8), (48 : UInt8), (48 : UInt8), (49 : UInt8), (58 : UInt8), (100 : UInt8), (98 : UInt8), (56 : UInt8), (58 : UInt8), (58 : UInt8), (49 : UInt8)] : ByteArray } == (0 : Int) && [parA { data := #[(50 : UInt8), (48 : UInt8), (48 : UInt8), (49 : UInt8), (58 : UInt8), (100 : UInt8), (98 : UInt8), (56 : UInt8), (58 : UInt8), (58 : UInt8), (49 : UInt8)] : ByteArray } (0 : Nat), parA { data := #[(50 : UInt8), (48 : UInt8), (48 : UInt8), (49 : UInt8), (58 : UInt8), (100 : UInt8), (98 : UInt8), (56 : UInt8), (58 : UInt8), (58 : UInt8), (49 : UInt8)] : ByteArray } (1 : Nat), parA { data := #[(50 : UInt8), (48 : UInt8), (48 : UInt8), (49 : UInt8), (58 : UInt8), (100 : UInt8), (98 : UInt8), (56 : UInt8), (58 : UInt8), (58 : UInt8), (49 : UInt8)] : ByteArray } (2 : Nat), parA { data := #[(50 : UInt8), (48 : UInt8), (48 : UInt8), (49 : UInt8), (58 : UInt8), (100 : UInt8), (98 : UInt8), (56 : UInt8), (58 : UInt8), (58 : UInt8), (49 : UInt8)] : ByteArray } (3 : Nat), parA { data := #[(50 : UInt8), (48 : UInt8), (48 : UInt8), (49 : UInt8), (58 : UInt8), (100 : UInt8), (98 : UInt8), (56 : UInt8), (58 : UInt8), (58 : UInt8), (49 : UInt8)] : ByteArray } (4 : Nat), parA { data := #[(50 : UInt8), (48 : UInt8), (48 : UInt8), (49 : UInt8), (58 : UInt8), (100 : UInt8), (98 : UInt8), (56 : UInt8), (58 : UInt8), (58 : UInt8), (49 : UInt8)] : ByteArray } (5 : Nat), parA { data := #[(50 : UInt8), (48 : UInt8), (48 : UInt8), (49 : UInt8), (58 : UInt8), (100 : UInt8), (98 : UInt8), (56 : UInt8), (58 : UInt8), (58 : UInt8), (49 : UInt8)] : ByteArray } (6 : Nat), parA { data := #[(50 : UInt8), (48 : UInt8), (48 : UInt8), (49 : UInt8), (58 : UInt8), (100 : UInt8), (98 : UInt8), (56 : UInt8), (58 : UInt8), (58 : UInt8), (49 : UInt8)] : ByteArray } (7 : Nat), parA { data := #[(50 : UInt8), (48 : UInt8), (48 : UInt8), (49 : UInt8), (58 : UInt8), (100 : UInt8), (98 : UInt8), (56 : UInt8), (58 : UInt8), (58 : UInt8), (49 : UInt8)] : ByteArray } (8 : Nat), parA { data := #[(50 : UInt8), (48 : UInt8), (48 : UInt8), (49 : UInt8), (58 : UInt8), (100 : UInt8), (98 : UInt8), (56 : UInt8), (58 : UInt8), (58 : UInt8), (49 : UInt8)] : ByteArray } (9 : Nat), parA { data := #[(50 : UInt8), (48 : UInt8), (48 : UInt8), (49 : UInt8), (58 : UInt8), (100 : UInt8), (98 : UInt8), (56 : UInt8), (58 : UInt8), (58 : UInt8), (49 : UInt8)] : ByteArray } (10 : Nat), parA { data := #[(50 : UInt8), (48 : UInt8), (48 : UInt8), (49 : UInt8), (58 : UInt8), (100 : UInt8), (98 : UInt8), (56 : UInt8), (58 : UInt8), (58 : UInt8), (49 : UInt8)] : ByteArray } (11 : Nat), parA { data := #[(50 : UInt8), (48 : UInt8), (48 : UInt8), (49 : UInt8), (58 : UInt8), (100 : UInt8), (98 : UInt8), (56 : UInt8), (58 : UInt8), (58 : UInt8), (49 : UInt8)] : ByteArray } (12 : Nat), parA { data := #[(50 : UInt8), (48 : UInt8), (48 : UInt8), (49 : UInt8), (58 : UInt8), (100 : UInt8), (98 : UInt8), (56 : UInt8), (58 : UInt8), (58 : UInt8), (49 : UInt8)] : ByteArray } (13 : Nat), parA { data := #[(50 : UInt8), (48 : UInt8), (48 : UInt8), (49 : UInt8), (58 : UInt8), (100 : UInt8), (98 : UInt8), (56 : UInt8), (58 : UInt8), (58 : UInt8), (49 : UInt8)] : ByteArray } (14 : Nat), parA { data := #[(50 : UInt8), (48 : UInt8), (48 : UInt8), (49 : UInt8), (58 : UInt8), (100 : UInt8), (98 : UInt8), (56 : UInt8), (58 : UInt8), (58 : UInt8), (49 : UInt8)] : ByteArray } (15 : Nat)].getD ((0 : Nat)) (0 : Int) == (32 : Int) && [parA { data := #[(50 : UInt8), (48 : UInt8), (48 : UInt8), (49 : UInt8), (58 : UInt8), (100 : UInt8), (98 : UInt8), (56 : UInt8), (58 : UInt8), (58 : UInt8), (49 : UInt8)] : ByteArray } (0 : Nat), parA { data := #[(50 : UInt8), (48 : UInt8), (48 : UInt8), (49 : UInt8), (58 : UInt8), (100 : UInt8), (98 : UInt8), (56 : UInt8), (58 : UInt8), (58 : UInt8), (49 : UInt8)] : ByteArray } (1 : Nat), parA { data := #[(50 : UInt8), (48 : UInt8), (48 : UInt8), (49 : UInt8), (58 : UInt8), (100 : UInt8), (98 : UInt8), (56 : UInt8), (58 : UInt8), (58 : UInt8), (49 : UInt8)] : ByteArray } (2 : Nat), parA { data := #[(50 : UInt8), (48 : UInt8), (48 : UInt8), (49 : UInt8), (58 : UInt8), (100 : UInt8), (98 : UInt8), (56 : UInt8), (58 : UInt8), (58 : UInt8), (49 : UInt8)] : ByteArray } (3 : Nat), parA { data := #[(50 : UInt8), (48 : UInt8), (48 : UInt8), (49 : UInt8), (58 : UInt8), (100 : UInt8), (98 : UInt8), (56 : UInt8), (58 : UInt8), (58 : UInt8), (49 : UInt8)] : ByteArray } (4 : Nat), parA { data := #[(50 : UInt8), (48 : UInt8), (48 : UInt8), (49 : UInt8), (58 : UInt8), (100 : UInt8), (98 : UInt8), (56 : UInt8), (58 : UInt8), (58 : UInt8), (49 : UInt8)] : ByteArray } (5 : Nat), parA { data := #[(50 : UInt8), (48 : UInt8), (48 : UInt8), (49 : UInt8), (58 : UInt8), (100 : UInt8), (98 : UInt8), (56 : UInt8), (58 : UInt8), (58 : UInt8), (49 : UInt8)] : ByteArray } (6 : Nat), parA { data := #[(50 : UInt8), (48 : UInt8), (48 : UInt8), (49 : UInt8), (58 : UInt8), (100 : UInt8), (98 : UInt8), (56 : UInt8), (58 : UInt8), (58 : UInt8), (49 : UInt8)] : ByteArray } (7 : Nat), parA { data := #[(50 : UInt8), (48 : UInt8), (48 : UInt8), (49 : UInt8), (58 : UInt8), (100 : UInt8), (98 : UInt8), (56 : UInt8), (58 : UInt8), (58 : UInt8), (49 : UInt8)] : ByteArray } (8 : Nat), parA { data := #[(50 : UInt8), (48 : UInt8), (48 : UInt8), (49 : UInt8), (58 : UInt8), (100 : UInt8), (98 : UInt8), (56 : UInt8), (58 : UInt8), (58 : UInt8), (49 : UInt8)] : ByteArray } (9 : Nat), parA { data := #[(50 : UInt8), (48 : UInt8), (48 : UInt8), (49 : UInt8), (58 : UInt8), (100 : UInt8), (98 : UInt8), (56 : UInt8), (58 : UInt8), (58 : UInt8), (49 : UInt8)] : ByteArray } (10 : Nat), parA { data := #[(50 : UInt8), (48 : UInt8), (48 : UInt8), (49 : UInt8), (58 : UInt8), (100 : UInt8), (98 : UInt8), (56 : UInt8), (58 : UInt8), (58 : UInt8), (49 : UInt8)] : ByteArray } (11 : Nat), parA { data := #[(50 : UInt8), (48 : UInt8), (48 : UInt8), (49 : UInt8), (58 : UInt8), (100 : UInt8), (98 : UInt8), (56 : UInt8), (58 : UInt8), (58 : UInt8), (49 : UInt8)] : ByteArray } (12 : Nat), parA { data := #[(50 : UInt8), (48 : UInt8), (48 : UInt8), (49 : UInt8), (58 : UInt8), (100 : UInt8), (98 : UInt8), (56 : UInt8), (58 : UInt8), (58 : UInt8), (49 : UInt8)] : ByteArray } (13 : Nat), parA { data := #[(50 : UInt8), (48 : UInt8), (48 : UInt8), (49 : UInt8), (58 : UInt8), (100 : UInt8), (98 : UInt8), (56 : UInt8), (58 : UInt8), (58 : UInt8), (49 : UInt8)] : ByteArray } (14 : Nat), parA { data := #[(50 : UInt8), (48 : UInt8), (48 : UInt8), (49 : UInt8), (58 : UInt8), (100 : UInt8), (98 : UInt8), (56 : UInt8), (58 : UInt8), (58 : UInt8), (49 : UInt8)] : ByteArray } (15 : Nat)].getD ((15 : Nat)) (0 : Int) == (1 : Int) && decide ((prn fun (i : Nat) => [(0 : Int), (0 : Int), (0 : Int), (0 : Int), (0 : Int), (0 : Int), (0 : Int), (0 : Int), (0 : Int), (0 : Int), (0 : Int), (0 : Int), (0 : Int), (0 : Int), (0 : Int), (1 : Int)].getD i (0 : Int)) = { data := #[(58 : UInt8), (58 : UInt8), (49 : UInt8)] : ByteArray })) = true → (1 : Nat) ≤ (1000000000 : Nat)) ∧ (parN { data := #[(50 : UInt8), (48 : UInt8), (48 : UInt8), (49 : UInt8), (58 : UInt8), (100 : UInt8), (98 : UInt8), (56 : UInt8), (58 : UInt8), (58 : UInt8), (49 : UInt8)] : ByteArray } == (0 : Int) && [parA { data := #[(50 : UInt8), (48 : UInt8), (48 : UInt8), (49 : UInt8), (58 : UInt8), (100 : UInt8), (98 : UInt8), (56 : UInt8), (58 : UInt8), (58 : UInt8), (49 : UInt8)] : ByteArray } (0 : Nat), parA { data := #[(50 : UInt8), (48 : UInt8), (48 : UInt8), (49 : UInt8), (58 : UInt8), (100 : UInt8), (98 : UInt8), (56 : UInt8), (58 : UInt8), (58 : UInt8), (49 : UInt8)] : ByteArray } (1 : Nat), parA { data := #[(50 : UInt8), (48 : UInt8), (48 : UInt8), (49 : UInt8), (58 : UInt8), (100 : UInt8), (98 : UInt8), (56 : UInt8), (58 : UInt8), (58 : UInt8), (49 : UInt8)] : ByteArray } (2 : Nat), parA { data := #[(50 : UInt8), (48 : UInt8), (48 : UInt8), (49 : UInt8), (58 : UInt8), (100 : UInt8), (98 : UInt8), (56 : UInt8), (58 : UInt8), (58 : UInt8), (49 : UInt8)] : ByteArray } (3 : Nat), parA { data := #[(50 : UInt8), (48 : UInt8), (48 : UInt8), (49 : UInt8), (58 : UInt8), (100 : UInt8), (98 : UInt8), (56 : UInt8), (58 : UInt8), (58 : UInt8), (49 : UInt8)] : ByteArray } (4 : Nat), parA { data := #[(50 : UInt8), (48 : UInt8), (48 : UInt8), (49 : UInt8), (58 : UInt8), (100 : UInt8), (98 : UInt8), (56 : UInt8), (58 : UInt8), (58 : UInt8), (49 : UInt8)] : ByteArray } (5 : Nat), parA { data := #[(50 : UInt8), (48 : UInt8), (48 : UInt8), (49 : UInt8), (58 : UInt8), (100 : UInt8), (98 : UInt8), (56 : UInt8), (58 : UInt8), (58 : UInt8), (49 : UInt8)] : ByteArray } (6 : Nat), parA { data := #[(50 : UInt8), (48 : UInt8), (48 : UInt8), (49 : UInt8), (58 : UInt8), (100 : UInt8), (98 : UInt8), (56 : UInt8), (58 : UInt8), (58 : UInt8), (49 : UInt8)] : ByteArray } (7 : Nat), parA { data := #[(50 : UInt8), (48 : UInt8), (48 : UInt8), (49 : UInt8), (58 : UInt8), (100 : UInt8), (98 : UInt8), (56 : UInt8), (58 : UInt8), (58 : UInt8), (49 : UInt8)] : ByteArray } (8 : Nat), parA { data := #[(50 : UInt8), (48 : UInt8), (48 : UInt8), (49 : UInt8), (58 : UInt8), (100 : UInt8), (98 : UInt8), (56 : UInt8), (58 : UInt8), (58 : UInt8), (49 : UInt8)] : ByteArray } (9 : Nat), parA { data := #[(50 : UInt8), (48 : UInt8), (48 : UInt8), (49 : UInt8), (58 : UInt8), (100 : UInt8), (98 : UInt8), (56 : UInt8), (58 : UInt8), (58 : UInt8), (49 : UInt8)] : ByteArray } (10 : Nat), parA { data := #[(50 : UInt8), (48 : UInt8), (48 : UInt8), (49 : UInt8), (58 : UInt8), (100 : UInt8), (98 : UInt8), (56 : UInt8), (58 : UInt8), (58 : UInt8), (49 : UInt8)] : ByteArray } (11 : Nat), parA { data := #[(50 : UInt8), (48 : UInt8), (48 : UInt8), (49 : UInt8), (58 : UInt8), (100 : UInt8), (98 : UInt8), (56 : UInt8), (58 : UInt8), (58 : UInt8), (49 : UInt8)] : ByteArray } (12 : Nat), parA { data := #[(50 : UInt8), (48 : UInt8), (48 : UInt8), (49 : UInt8), (58 : UInt8), (100 : UInt8), (98 : UInt8), (56 : UInt8), (58 : UInt8), (58 : UInt8), (49 : UInt8)] : ByteArray } (13 : Nat), parA { data := #[(50 : UInt8), (48 : UInt8), (48 : UInt8), (49 : UInt8), (58 : UInt8), (100 : UInt8), (98 : UInt8), (56 : UInt8), (58 : UInt8), (58 : UInt8), (49 : UInt8)] : ByteArray } (14 : Nat), parA { data := #[(50 : UInt8), (48 : UInt8), (48 : UInt8), (49 : UInt8), (58 : UInt8), (100 : UInt8), (98 : UInt8), (56 : UInt8), (58 : UInt8), (58 : UInt8), (49 : UInt8)] : ByteArray } (15 : Nat)].getD ((0 : Nat)) (0 : Int) == (32 : Int) && [parA { data := #[(50 : UInt8), (48 : UInt8), (48 : UInt8), (49 : UInt8), (58 : UInt8), (100 : UInt8), (98 : UInt8), (56 : UInt8), (58 : UInt8), (58 : UInt8), (49 : UInt8)] : ByteArray } (0 : Nat), parA { data := #[(50 : UInt8), (48 : UInt8), (48 : UInt8), (49 : UInt8), (58 : UInt8), (100 : UInt8), (98 : UInt8), (56 : UInt8), (58 : UInt8), (58 : UInt8), (49 : UInt8)] : ByteArray } (1 : Nat), parA { data := #[(50 : UInt8), (48 : UInt8), (48 : UInt8), (49 : UInt8), (58 : UInt8), (100 : UInt8), (98 : UInt8), (56 : UInt8), (58 : UInt8), (58 : UInt8), (49 : UInt8)] : ByteArray } (2 : Nat), parA { data := #[(50 : UInt8), (48 : UInt8), (48 : UInt8), (49 : UInt8), (58 : UInt8), (100 : UInt8), (98 : UInt8), (56 : UInt8), (58 : UInt8), (58 : UInt8), (49 : UInt8)] : ByteArray } (3 : Nat), parA { data := #[(50 : UInt8), (48 : UInt8), (48 : UInt8), (49 : UInt8), (58 : UInt8), (100 : UInt8), (98 : UInt8), (56 : UInt8), (58 : UInt8), (58 : UInt8), (49 : UInt8)] : ByteArray } (4 : Nat), parA { data := #[(50 : UInt8), (48 : UInt8), (48 : UInt8), (49 : UInt8), (58 : UInt8), (100 : UInt8), (98 : UInt8), (56 : UInt8), (58 : UInt8), (58 : UInt8), (49 : UInt8)] : ByteArray } (5 : Nat), parA { data := #[(50 : UInt8), (48 : UInt8), (48 : UInt8), (49 : UInt8), (58 : UInt8), (100 : UInt8), (98 : UInt8), (56 : UInt8), (58 : UInt8), (58 : UInt8), (49 : UInt8)] : ByteArray } (6 : Nat), parA { data := #[(50 : UInt8), (48 : UInt8), (48 : UInt8), (49 : UInt8), (58 : UInt8), (100 : UInt8), (98 : UInt8), (56 : UInt8), (58 : UInt8), (58 : UInt8), (49 : UInt8)] : ByteArray } (7 : Nat), parA { data := #[(50 : UInt8), (48 : UInt8), (48 : UInt8), (49 : UInt8), (58 : UInt8), (100 : UInt8), (98 : UInt8), (56 : UInt8), (58 : UInt8), (58 : UInt8), (49 : UInt8)] : ByteArray } (8 : Nat), parA { data := #[(50 : UInt8), (48 : UInt8), (48 : UInt8), (49 : UInt8), (58 : UInt8), (100 : UInt8), (98 : UInt8), (56 : UInt8), (58 : UInt8), (58 : UInt8), (49 : UInt8)] : ByteArray } (9 : Nat), parA { data := #[(50 : UInt8), (48 : UInt8), (48 : UInt8), (49 : UInt8), (58 : UInt8), (100 : UInt8), (98 : UInt8), (56 : UInt8), (58 : UInt8), (58 : UInt8), (49 : UInt8)] : ByteArray } (10 : Nat), parA { data := #[(50 : UInt8), (48 : UInt8), (48 : UInt8), (49 : UInt8), (58 : UInt8), (100 : UInt8), (98 : UInt8), (56 : UInt8), (58 : UInt8), (58 : UInt8), (49 : UInt8)] : ByteArray } (11 : Nat), parA { data := #[(50 : UInt8), (48 : UInt8), (48 : UInt8), (49 : UInt8), (58 : UInt8), (100 : UInt8), (98 : UInt8), (56 : UInt8), (58 : UInt8), (58 : UInt8), (49 : UInt8)] : ByteArray } (12 : Nat), parA { data := #[(50 : UInt8), (48 : UInt8), (48 : UInt8), (49 : UInt8), (58 : UInt8), (100 : UInt8), (98 : UInt8), (56 : UInt8), (58 : UInt8), (58 : UInt8), (49 : UInt8)] : ByteArray } (13 : Nat), parA { data := #[(50 : UInt8), (48 : UInt8), (48 : UInt8), (49 : UInt8), (58 : UInt8), (100 : UInt8), (98 : UInt8), (56 : UInt8), (58 : UInt8), (58 : UInt8), (49 : UInt8)] : ByteArray } (14 : Nat), parA { data := #[(50 : UInt8), (48 : UInt8), (48 : UInt8), (49 : UInt8), (58 : UInt8), (100 : UInt8), (98 : UInt8), (56 : UInt8), (58 : UInt8), (58 : UInt8), (49 : UInt8)] : ByteArray } (15 : Nat)].getD ((15 : Nat)) (0 : Int) == (1 : Int) && decide ((prn fun (i : Nat) => [(0 : Int), (0 : Int), (0 : Int), (0 : Int), (0 : Int), (0 : Int), (0 : Int), (0 : Int), (0 : Int), (0 : Int), (0 : Int), (0 : Int), (0 : Int), (0 : Int), (0 : Int), (1 : Int)].getD i (0 : Int)) = { data := #[(58 : UInt8), (58 : UInt8), (49 : UInt8)] : ByteArray }) && cntN { data := #[(97 : UInt8)] : ByteArray } == (1 : Int)) = true
theorem fitV_eq  : fitV  = (funC cxi Tryd.f11 .nil [] (XB true)) := by kernel_rfl
theorem fit_1 : b16 fun i => [0, 0, 0, 0, 0, 0, 0, 0, 0, 0, 0, 0, 0, 0, 0, 1].getD i 0 := fun k hk => by
  have h : ∀ k, k < 16 → (0 : Int) ≤ [0, 0, 0, 0, 0, 0, 0, 0, 0, 0, 0, 0, 0, 0, 0, 1].getD k 0 ∧ [0, 0, 0, 0, 0, 0, 0, 0, 0, 0, 0, 0, 0, 0, 0, 1].getD k (0 : Int) ≤ 255 := by decide
  exact h k hk
theorem fit_v : fitV := by
  unfold fitV
  refine ⟨by omega, fun _ => by omega, fun _ => by omega, fun _ => by omega, fun _ => by omega, fun _ => by omega, fun _ => by omega, fun _ => fit_1, fun _ => by omega, ?_⟩
  decide +kernel
def fitC : CT := C0 [] (XB true)
theorem fit_ok : CTok Tryd.prog 11 fitC := C0_ok cxi_ok Tryd.func11 rfl (by decide) (by kernel_rfl) fun _ => exv fitV_eq fit_v
end Go.Proofs.YtghmlhdlkgjbeaaDoorAv
set_option linter.unusedVariables false
set_option linter.unusedSimpArgs false
set_option maxRecDepth 100000
namespace Go.Proofs.YtghmlhdlkgjbeaaDoorAv
open Go Go.RowKit
/-- Texts with colons between. -/
def cjn : List (List UInt8) → List UInt8
  | [] => []
  | [x] => x
  | x :: y :: l => x ++ 58 :: cjn (y :: l)
theorem cjn_cons (x : List UInt8) : ∀ l, l ≠ [] → cjn (x :: l) = x ++ 58 :: cjn l
  | [], h => absurd rfl h
  | y :: l, _ => rfl
theorem cjn_snoc (x : List UInt8) : ∀ l, l ≠ [] → cjn (l ++ [x]) = cjn l ++ 58 :: x
  | [], h => absurd rfl h
  | [y], _ => rfl
  | y :: z :: l, _ => by
    rw [List.cons_append, cjn_cons y _ (by simp), cjn_snoc x (z :: l) (by simp), cjn_cons y (z :: l) (by simp), List.append_assoc]
    rfl
/-- The groups of m places from i on, as texts. -/
def gL (a : Nat → Int) (i m : Nat) : List (List UInt8) := (List.range m).map fun j => hexL (gp a (i + j)).toNat
theorem gL_succ (a : Nat → Int) (i m : Nat) : gL a i (m + 1) = gL a i m ++ [hexL (gp a (i + m)).toNat] := by
  unfold gL
  rw [List.range_succ, List.map_append]
  rfl
theorem gL_len (a : Nat → Int) (i m : Nat) : (gL a i m).length = m := by simp [gL]
theorem hexd_r : ∀ k : Fin 16, hexd k.val ≠ 58 ∧ hexd k.val ≠ 46 ∧ hx (hexd k.val) = k.val := by decide
theorem hexd_m (n : Nat) : hexd (n % 16) ≠ 58 ∧ hexd (n % 16) ≠ 46 ∧ hx (hexd (n % 16)) = n % 16 := hexd_r ⟨n % 16, by omega⟩
theorem hexd_lt (n : Nat) (h : n < 16) : hexd n ≠ 58 ∧ hexd n ≠ 46 ∧ hx (hexd n) = n := hexd_r ⟨n, h⟩
theorem hexL_ne (n : Nat) : hexL n ≠ [] := by
  unfold hexL
  split
  · simp
  · split
    · simp
    · split <;> simp
theorem hexL_mem (n : Nat) (hn : n < 65536) (c : UInt8) (hc : c ∈ hexL n) : ∃ k, k < 16 ∧ c = hexd k := by
  unfold hexL at hc
  split at hc
  · exact ⟨n, by omega, by simpa using hc⟩
  · split at hc
    · simp at hc
      rcases hc with rfl | rfl
      · exact ⟨_, by omega, rfl⟩
      · exact ⟨_, by omega, rfl⟩
    · split at hc
      · simp at hc
        rcases hc with rfl | rfl | rfl
        · exact ⟨_, by omega, rfl⟩
        · exact ⟨_, by omega, rfl⟩
        · exact ⟨_, by omega, rfl⟩
      · simp at hc
        rcases hc with rfl | rfl | rfl | rfl
        · exact ⟨_, by omega, rfl⟩
        · exact ⟨_, by omega, rfl⟩
        · exact ⟨_, by omega, rfl⟩
        · exact ⟨_, by omega, rfl⟩
theorem hexL_no (n : Nat) (hn : n < 65536) : (58 : UInt8) ∉ hexL n ∧ (46 : UInt8) ∉ hexL n := by
  constructor
  · intro h
    obtain ⟨k, hk, e⟩ := hexL_mem n hn _ h
    exact (hexd_lt k hk).1 e.symm
  · intro h
    obtain ⟨k, hk, e⟩ := hexL_mem n hn _ h
    exact (hexd_lt k hk).2.1 e.symm
/-- A text's pieces are such as Print writes them: none is empty, none has a colon. -/
def okG (l : List (List UInt8)) : Prop := ∀ x ∈ l, x ≠ [] ∧ (58 : UInt8) ∉ x ∧ (46 : UInt8) ∉ x
theorem gL_ok (a : Nat → Int) (ha : b16 a) (i m : Nat) (h : i + m ≤ 8) : okG (gL a i m) := fun x hx => by
  obtain ⟨j, hj, rfl⟩ := List.mem_map.1 hx
  have := List.mem_range.1 hj
  have hg := gp_b a ha (i + j) (by omega)
  have := hexL_no (gp a (i + j)).toNat (by omega)
  exact ⟨hexL_ne _, this.1, this.2⟩
theorem suf_snoc (p : List UInt8) (c : UInt8) : Lib.hasSuffix (p ++ [c]) [58] = (c == 58) := by
  unfold Lib.hasSuffix
  rw [List.isSuffixOf, List.reverse_append]
  show List.isPrefixOf [58] (c :: p.reverse) = _
  simp [List.isPrefixOf, BEq.comm]
theorem suf_no (p x : List UInt8) (h : x ≠ []) (h2 : (58 : UInt8) ∉ x) : Lib.hasSuffix (p ++ x) [58] = false := by
  have e := List.dropLast_concat_getLast h
  rw [← e, ← List.append_assoc, suf_snoc]
  apply beq_false_of_ne
  intro h3
  exact h2 (h3 ▸ List.getLast_mem h)
theorem cjn_last (l : List (List UInt8)) (x : List UInt8) : ∃ p, cjn (l ++ [x]) = p ++ x := by
  cases l with
  | nil => exact ⟨[], rfl⟩
  | cons y l => exact ⟨cjn (y :: l) ++ [58], by rw [cjn_snoc x _ (by simp), List.append_assoc]; rfl⟩
theorem data_inj {s t : ByteArray} (h : s.data.toList = t.data.toList) : s = t := by
  rw [← data_mk8 s, h, data_mk8]
theorem app_dt (a b : ByteArray) : (a ++ b).data.toList = a.data.toList ++ b.data.toList := by
  rw [ByteArray.data_append, Array.toList_append]
theorem hexB_data (n : Nat) : (hexB n).data.toList = hexL n := rfl
/-- One group more. -/
theorem prT_add (a : Nat → Int) (b r : Int) (k : Nat) (h : (k : Int) < b ∨ b + r ≤ k) (p x : List UInt8) (e : (prT a b r k).data.toList = p ++ x) (hx : x ≠ []) (h2 : (58 : UInt8) ∉ x) :
    (prT a b r (k + 1)).data.toList = p ++ x ++ 58 :: hexL (gp a k).toNat := by
  rw [prT_out a b r k h, if_pos, app_dt, app_dt, e, hexB_data, List.append_assoc]
  · rfl
  · constructor
    · intro h3
      rw [h3] at e
      have := congrArg List.length e
      rw [List.length_append] at this
      have h4 : 0 < x.length := List.length_pos_iff.2 hx
      have h5 : (⟨#[]⟩ : ByteArray).data.toList.length = 0 := rfl
      omega
    · unfold hasSufB
      rw [e]
      exact suf_no p x hx h2
theorem prT_pre (a : Nat → Int) (ha : b16 a) (b r : Int) : ∀ k : Nat, k ≤ 8 → (∀ j : Nat, j < k → (j : Int) < b ∨ b + r ≤ j) → (prT a b r k).data.toList = cjn (gL a 0 k)
  | 0, _, _ => rfl
  | 1, _, h => by
    rw [prT_out a b r 0 (h 0 (by omega)), if_neg (fun e => e.1 rfl), app_dt, hexB_data]
    rfl
  | k + 2, hk, h => by
    have ih := prT_pre a ha b r (k + 1) (by omega) (fun j hj => h j (by omega))
    have ho := gL_ok a ha 0 (k + 1) (by omega) (hexL (gp a (0 + k)).toNat) (by rw [gL_succ]; simp)
    rw [gL_succ, cjn_snoc _ _ (by rw [gL_succ]; simp), ← ih]
    rw [gL_succ] at ih
    obtain ⟨p, hp⟩ := cjn_last (gL a 0 k) (hexL (gp a (0 + k)).toNat)
    rw [hp] at ih
    rw [prT_add a b r (k + 1) (h (k + 1) (by omega)) p _ ih ho.1 ho.2.1, ih, Nat.zero_add, Nat.zero_add]
theorem prT_post (a : Nat → Int) (ha : b16 a) (b r : Nat) (hr : 1 ≤ r) (hb : b + r ≤ 8) : ∀ m, b + r + m ≤ 8 → (prT a b r (b + r + m)).data.toList = cjn (gL a 0 b) ++ 58 :: 58 :: cjn (gL a (b + r) m)
  | 0, _ => by
    obtain ⟨n, rfl⟩ : ∃ n, r = n + 1 := ⟨r - 1, by omega⟩
    rw [Nat.add_zero, show b + (n + 1) = b + n + 1 by omega, prT_in a b (n + 1) n (by omega), app_dt, prT_pre a ha b ((n + 1 : Nat) : Int) b (by omega) (fun j hj => .inl (by omega))]
    rfl
  | 1, h => by
    have ih := prT_post a ha b r hr hb 0 (by omega)
    rw [Nat.add_zero] at ih
    rw [prT_out a b r (b + r) (.inr (by omega)), if_neg, app_dt, ih, hexB_data, List.append_assoc]
    · rfl
    · rintro ⟨-, h2⟩
      unfold hasSufB at h2
      rw [ih] at h2
      have : cjn (gL a 0 b) ++ 58 :: 58 :: cjn (gL a (b + r) 0) = (cjn (gL a 0 b) ++ [58]) ++ [58] := by
        rw [List.append_assoc]; rfl
      rw [this] at h2
      have h3 := suf_snoc (cjn (gL a 0 b) ++ [58]) 58
      have h2 : Lib.hasSuffix (cjn (gL a 0 b) ++ [58] ++ [58]) [58] = false := h2
      rw [h2] at h3
      cases h3
  | m + 2, h => by
    have ih := prT_post a ha b r hr hb (m + 1) (by omega)
    have ho := gL_ok a ha (b + r) (m + 1) (by omega) (hexL (gp a (b + r + m)).toNat) (by rw [gL_succ]; simp)
    rw [gL_succ, cjn_snoc _ _ (by rw [gL_succ]; simp)]
    rw [gL_succ] at ih ⊢
    obtain ⟨p, hp⟩ := cjn_last (gL a (b + r) m) (hexL (gp a (b + r + m)).toNat)
    rw [hp] at ih ⊢
    have e : (prT a b r (b + r + (m + 1))).data.toList = (cjn (gL a 0 b) ++ 58 :: 58 :: p) ++ hexL (gp a (b + r + m)).toNat := by
      rw [ih, List.append_assoc]; rfl
    rw [show b + r + (m + 2) = (b + r + (m + 1)) + 1 by omega, prT_add a b r _ (.inr (by omega)) _ _ e ho.1 ho.2.1]
    simp only [List.append_assoc, List.cons_append]
/-- How the text of an address that is none of IPv4 looks. -/
theorem prn_six (a : Nat → Int) (ha : b16 a) (h4 : is4 a = false) :
    ((prn a).data.toList = cjn (gL a 0 8) ∧ ∀ i, i < 8 → zrun a 9 i ≤ 1) ∨
    ∃ b r, 2 ≤ r ∧ b + r ≤ 8 ∧ (∀ j, j < r → gp a (b + j) = 0) ∧ (prn a).data.toList = cjn (gL a 0 b) ++ 58 :: 58 :: cjn (gL a (b + r) (8 - b - r)) := by
  have e : prn a = prT a (best a 8).1 (best a 8).2 8 := by
    unfold prn
    rw [if_neg (by rw [h4]; decide)]
  have hz : ∀ n, (best a n).1 = -1 ∨ ∃ i : Nat, (best a n).1 = (i : Int) ∧ (best a n).2 = (zrun a 9 i : Int) := fun n => by
    induction n with
    | zero => exact .inl rfl
    | succ n ih =>
      rw [best]
      split
      · exact .inr ⟨n, rfl, rfl⟩
      · exact ih
  have hle : ∀ n i, i < n → (zrun a 9 i : Int) ≤ (best a n).2 := fun n => by
    induction n with
    | zero => exact fun i hi => absurd hi (by omega)
    | succ n ih =>
      intro i hi
      rw [best]
      split
      · rename_i hb
        show _ ≤ (zrun a 9 n : Int)
        by_cases hin : i = n
        · rw [hin]; exact Int.le_refl _
        · have := ih i (by omega); omega
      · rename_i hb
        by_cases hin : i = n
        · rw [hin]; omega
        · exact ih i (by omega)
  have hbi := best_i a 8
  have hz := hz 8
  have hle := hle 8
  generalize best a 8 = q at *
  obtain ⟨b, r⟩ := q
  rcases hbi with ⟨h1, h2⟩ | ⟨⟨h1, h1'⟩, h2, h3⟩
  · left
    have h1 : b = -1 := h1
    have h2 : r = 1 := h2
    subst h1 h2
    dsimp only at e
    rw [e]
    refine ⟨prT_pre a ha (-1) 1 8 (Nat.le_refl _) (fun j hj => .inr (by omega)), fun i hi => ?_⟩
    have h5 : (zrun a 9 i : Int) ≤ 1 := hle i hi
    omega
  · right
    dsimp only at h1 h1' h2 h3 hz
    rcases hz with hm | ⟨b', hb, hr⟩
    · omega
    · have hzr := (zrun_z a 9 b').1
      subst hb hr
      generalize zrun a 9 b' = r at *
      refine ⟨b', r, by omega, by omega, hzr, ?_⟩
      dsimp only at e
      rw [e]
      have := prT_post a ha b' r (by omega) (by omega) (8 - b' - r) (by omega)
      rw [show b' + r + (8 - b' - r) = 8 by omega] at this
      exact this
end Go.Proofs.YtghmlhdlkgjbeaaDoorAv
set_option linter.unusedVariables false
set_option linter.unusedSimpArgs false
set_option maxRecDepth 100000
namespace Go.Proofs.YtghmlhdlkgjbeaaDoorAv
open Go Go.RowKit
/-- No two colons stand together, and none at the end. -/
def clc : List UInt8 → Prop
  | [] => True
  | c :: l => (c = 58 → ∃ d l', l = d :: l' ∧ d ≠ 58) ∧ clc l
theorem clc_no : ∀ x : List UInt8, (58 : UInt8) ∉ x → clc x
  | [], _ => trivial
  | c :: l, h => ⟨fun e => absurd (e ▸ List.mem_cons_self) h, clc_no l (fun h2 => h (List.mem_cons_of_mem _ h2))⟩
theorem clc_app : ∀ (x y : List UInt8), (58 : UInt8) ∉ x → x ≠ [] → clc y → (∃ d l', y = d :: l' ∧ d ≠ 58) → clc (x ++ 58 :: y)
  | [], _, _, h, _, _ => absurd rfl h
  | [c], y, h, _, hy, hd => ⟨fun e => absurd (e ▸ List.mem_cons_self) h, fun _ => hd, hy⟩
  | c :: d :: l, y, h, _, hy, hd => ⟨fun e => absurd (e ▸ List.mem_cons_self) h, clc_app (d :: l) y (fun h2 => h (List.mem_cons_of_mem _ h2)) (by simp) hy hd⟩
theorem cjn_head : ∀ l, okG l → l ≠ [] → ∃ d l', cjn l = d :: l' ∧ d ≠ 58
  | [], _, h => absurd rfl h
  | x :: l, ho, _ => by
    have hx := ho x (by simp)
    cases x with
    | nil => exact absurd rfl hx.1
    | cons c x =>
      have hc : c ≠ 58 := fun e => hx.2.1 (e ▸ List.mem_cons_self)
      cases l with
      | nil => exact ⟨c, x, rfl, hc⟩
      | cons y l => exact ⟨c, x ++ 58 :: cjn (y :: l), rfl, hc⟩
theorem clc_cjn : ∀ l, okG l → clc (cjn l)
  | [], _ => trivial
  | [x], h => clc_no x (h x (by simp)).2.1
  | x :: y :: l, h => by
    have h' : okG (y :: l) := fun z hz => h z (List.mem_cons_of_mem _ hz)
    exact clc_app x _ (h x (by simp)).2.1 (h x (by simp)).1 (clc_cjn (y :: l) h') (cjn_head _ h' (by simp))
theorem pre2 (c : UInt8) (l : List UInt8) (h : c = 58 → ∃ d l', l = d :: l' ∧ d ≠ 58) : List.isPrefixOf [58, 58] (c :: l) = false := by
  by_cases e : c = 58
  · obtain ⟨d, l', rfl, hd⟩ := h e
    simp [List.isPrefixOf, hd.symm]
  · have e' : (58 : UInt8) ≠ c := fun h => e h.symm
    simp [List.isPrefixOf, e']
theorem idx_at : ∀ x y : List UInt8, clc x → Lib.index (x ++ 58 :: 58 :: y) [58, 58] = (x.length : Int)
  | [], y, _ => by
    show Lib.index (58 :: 58 :: y) [58, 58] = 0
    unfold Lib.index
    rw [if_pos (by simp [List.isPrefixOf])]
  | c :: x, y, h => by
    have ih := idx_at x y h.2
    rw [List.cons_append]
    unfold Lib.index
    rw [pre2 c _ (fun e => by
      obtain ⟨d, l', rfl, hd⟩ := h.1 e
      exact ⟨d, _, rfl, hd⟩), if_neg (by decide), ih, if_neg (by simp), List.length_cons]
    omega
theorem idx_no : ∀ x : List UInt8, clc x → Lib.index x [58, 58] = -1
  | [], _ => rfl
  | c :: x, h => by
    have ih := idx_no x h.2
    unfold Lib.index
    rw [pre2 c _ h.1, if_neg (by decide), ih]
    rfl
theorem cut_at (x y : List UInt8) (h : clc x) : Lib.cut (x ++ 58 :: 58 :: y) [58, 58] = (x, y, true) := by
  unfold Lib.cut
  rw [idx_at x y h, if_pos (by omega)]
  have e : ((x.length : Int).toNat + [58, 58].length) = x.length + 2 := by
    show _ + 2 = _
    omega
  rw [show ((x.length : Int)).toNat = x.length by omega]
  simp
theorem cut_no (x : List UInt8) (h : clc x) : Lib.cut x [58, 58] = (x, [], false) := by
  unfold Lib.cut
  rw [idx_no x h, if_neg (by omega)]
theorem sp_at (c : UInt8) (y : List UInt8) : ∀ x : List UInt8, c ∉ x → split1 c (x ++ c :: y) = x :: split1 c y
  | [], _ => by
    show split1 c (c :: y) = _
    conv => lhs; unfold split1
    rw [if_pos rfl]
  | b :: x, h => by
    have hb : b ≠ c := fun e => h (e ▸ List.mem_cons_self)
    rw [List.cons_append]
    conv => lhs; unfold split1
    rw [if_neg hb, sp_at c y x (fun h2 => h (List.mem_cons_of_mem _ h2))]
theorem sp_no (c : UInt8) : ∀ x : List UInt8, c ∉ x → split1 c x = [x]
  | [], _ => rfl
  | b :: x, h => by
    have hb : b ≠ c := fun e => h (e ▸ List.mem_cons_self)
    unfold split1
    rw [if_neg hb, sp_no c x (fun h2 => h (List.mem_cons_of_mem _ h2))]
theorem sp_cjn : ∀ l, okG l → l ≠ [] → split1 58 (cjn l) = l
  | [], _, h => absurd rfl h
  | [x], h, _ => sp_no 58 x (h x (by simp)).2.1
  | x :: y :: l, h, _ => by
    have h' : okG (y :: l) := fun z hz => h z (List.mem_cons_of_mem _ hz)
    rw [cjn_cons x _ (by simp), sp_at 58 _ x (h x (by simp)).2.1, sp_cjn (y :: l) h' (by simp)]
theorem side_cjn (l : List (List UInt8)) (h : okG l) : side (mk8 (cjn l)) = l.map mk8 := by
  unfold side
  by_cases e : l = []
  · subst e
    exact if_pos rfl
  · have : mk8 (cjn l) ≠ ⟨#[]⟩ := fun h2 => by
      obtain ⟨d, l', hd, -⟩ := cjn_head l h e
      have := congrArg (·.data.toList) h2
      rw [show (mk8 (cjn l)).data.toList = cjn l from rfl, hd] at this
      cases this
    rw [if_neg this, splitS_one, mk8_data, sp_cjn l h e]
theorem pu_hex (n : Nat) (hn : n < 65536) : pu16 (mk8 (hexL n)) = (0, n) := by
  have h0 : mk8 (hexL n) ≠ ⟨#[]⟩ := fun h2 => by
    have := congrArg (·.data.toList) h2
    exact hexL_ne n this
  unfold pu16
  rw [if_neg h0, mk8_data]
  have st : ∀ (m k : Nat) (l : List UInt8), k < 16 → m * 16 + k < 65536 → pu m (hexd k :: l) = pu (m * 16 + k) l := fun m k l hk hm => by
    rw [pu, (hexd_lt k hk).2.2, if_neg (by omega), if_neg (by omega)]
  by_cases h1 : n < 16
  · rw [hexL_1 n h1, st 0 n _ h1 (by omega), pu]; congr 1; omega
  · by_cases h2 : n < 256
    · rw [hexL_2 n h1 h2, st 0 _ _ (by omega) (by omega), st _ _ _ (by omega) (by omega), pu]; congr 1; omega
    · by_cases h3 : n < 4096
      · rw [hexL_3 n h1 h2 h3, st 0 _ _ (by omega) (by omega), st _ _ _ (by omega) (by omega), st _ _ _ (by omega) (by omega), pu]; congr 1; omega
      · rw [hexL_4 n h1 h2 h3, st 0 _ _ (by omega) (by omega), st _ _ _ (by omega) (by omega), st _ _ _ (by omega) (by omega), st _ _ _ (by omega) (by omega), pu]; congr 1; omega
/-- The pieces as Print wrote them: b groups ahead, m behind. -/
def pLR (a : Nat → Int) (b m : Nat) : LR := ⟨(gL a 0 b).map mk8, (gL a (8 - m) m).map mk8⟩
theorem gL_at (a : Nat → Int) (i m j : Nat) (h : j < m) : pcs ((gL a i m).map mk8) j = mk8 (hexL (gp a (i + j)).toNat) := by
  unfold pcs gL
  rw [List.getD_eq_getElem?_getD, List.map_map, List.getElem?_map, List.getElem?_range h]
  rfl
theorem sixP_p (a : Nat → Int) (b m i : Nat) : sixP (pLR a b m) i = if i < b then i else i + (8 - b - m) := by
  unfold sixP pLR
  simp only [List.length_map, gL_len]
theorem sixQ_p (a : Nat → Int) (b m i : Nat) (hbm : b + m ≤ 8) (hi : i < b + m) : sixQ (pLR a b m) i = mk8 (hexL (gp a (sixP (pLR a b m) i)).toNat) := by
  rw [sixP_p]
  unfold sixQ pLR
  simp only [List.length_map, gL_len]
  by_cases h : i < b
  · rw [if_pos h, if_pos h, gL_at a 0 b i h, Nat.zero_add]
  · rw [if_neg h, if_neg h, gL_at a _ m _ (by omega), show 8 - m + (i - b) = i + (8 - b - m) by omega]
theorem sixP_lt (a : Nat → Int) (b m i : Nat) (hbm : b + m ≤ 8) (hi : i < b + m) : sixP (pLR a b m) i < 8 := by
  rw [sixP_p]
  split <;> omega
theorem sixQ_n (a : Nat → Int) (ha : b16 a) (b m i : Nat) (hbm : b + m ≤ 8) (hi : i < b + m) : pu16 (sixQ (pLR a b m) i) = (0, (gp a (sixP (pLR a b m) i)).toNat) := by
  have hg := gp_b a ha _ (sixP_lt a b m i hbm hi)
  rw [sixQ_p a b m i hbm hi, pu_hex _ (by omega)]
theorem sixOk_p (a : Nat → Int) (ha : b16 a) (b m : Nat) (hbm : b + m ≤ 8) : ∀ n, n ≤ b + m → sixOk (pLR a b m) n = true
  | 0, _ => rfl
  | n + 1, h => by
    rw [sixOk, sixOk_p a ha b m hbm n (by omega), sixQ_n a ha b m n hbm (by omega)]
    rfl
theorem wrap_hi (x y : Int) (hx : 0 ≤ x ∧ x ≤ 255) (hy : 0 ≤ y ∧ y ≤ 255) : IntKind.u8.wrap (((x * 256 + y).toNat : Int).fdiv (2 ^ 8)) = x ∧ IntKind.u8.wrap ((x * 256 + y).toNat : Int) = y := by
  have e : ∀ n : Int, IntKind.u8.wrap n = n % 256 := fun n => by simp [IntKind.wrap, IntKind.bits, IntKind.signed]
  have h0 : (((x * 256 + y).toNat : Nat) : Int) = x * 256 + y := by omega
  rw [e, e, h0]
  refine ⟨?_, by omega⟩
  rw [Int.fdiv_eq_ediv_of_nonneg _ (by decide)]
  have : (2 : Int) ^ 8 = 256 := rfl
  rw [this]
  omega
theorem sixA_p (a : Nat → Int) (ha : b16 a) (b m : Nat) (hbm : b + m ≤ 8) (j : Nat) (hj : j < 8) : ∀ n, n ≤ b + m →
    ((∃ i, i < n ∧ sixP (pLR a b m) i = j) → sixA (pLR a b m) n (2 * j) = a (2 * j) ∧ sixA (pLR a b m) n (2 * j + 1) = a (2 * j + 1)) ∧
    ((¬ ∃ i, i < n ∧ sixP (pLR a b m) i = j) → sixA (pLR a b m) n (2 * j) = 0 ∧ sixA (pLR a b m) n (2 * j + 1) = 0)
  | 0, _ => ⟨fun ⟨i, hi, _⟩ => absurd hi (by omega), fun _ => ⟨rfl, rfl⟩⟩
  | n + 1, h => by
    have ih := sixA_p a ha b m hbm j hj n (by omega)
    have hq := sixQ_n a ha b m n hbm (by omega)
    rw [sixA, hq]
    dsimp only
    by_cases e : sixP (pLR a b m) n = j
    · rw [e]
      have hw := wrap_hi (a (2 * j)) (a (2 * j + 1)) (ha _ (by omega)) (ha _ (by omega))
      refine ⟨fun _ => ?_, fun h2 => absurd ⟨n, by omega, e⟩ h2⟩
      rw [if_neg (by omega), if_pos rfl, if_pos rfl]
      exact hw
    · rw [if_neg (by omega), if_neg (by omega), if_neg (by omega), if_neg (by omega)]
      have ex : (∃ i, i < n + 1 ∧ sixP (pLR a b m) i = j) ↔ ∃ i, i < n ∧ sixP (pLR a b m) i = j := by
        constructor
        · rintro ⟨i, hi, h2⟩
          have : i ≠ n := fun e2 => e (e2 ▸ h2)
          exact ⟨i, by omega, h2⟩
        · rintro ⟨i, hi, h2⟩
          exact ⟨i, by omega, h2⟩
      rw [ex]
      exact ih
theorem gp_zero (a : Nat → Int) (ha : b16 a) (j : Nat) (hj : j < 8) (h : gp a j = 0) : a (2 * j) = 0 ∧ a (2 * j + 1) = 0 := by
  have h1 := ha (2 * j) (by omega)
  have h2 := ha (2 * j + 1) (by omega)
  unfold gp at h
  omega
theorem sixA_all (a : Nat → Int) (ha : b16 a) (b m : Nat) (hbm : b + m ≤ 8) (hz : ∀ j, b ≤ j → j < 8 - m → gp a j = 0) (k : Nat) (hk : k < 16) : sixA (pLR a b m) (b + m) k = a k := by
  have key : ∀ j, j < 8 → sixA (pLR a b m) (b + m) (2 * j) = a (2 * j) ∧ sixA (pLR a b m) (b + m) (2 * j + 1) = a (2 * j + 1) := fun j hj => by
    have h := sixA_p a ha b m hbm j hj (b + m) (Nat.le_refl _)
    by_cases h1 : j < b
    · exact h.1 ⟨j, by omega, by rw [sixP_p, if_pos h1]⟩
    · by_cases h2 : j < 8 - m
      · have hg := gp_zero a ha j hj (hz j (by omega) h2)
        rw [hg.1, hg.2]
        refine h.2 ?_
        rintro ⟨i, hi, e⟩
        rw [sixP_p] at e
        split at e <;> omega
      · exact h.1 ⟨j - (8 - b - m), by omega, by rw [sixP_p, if_neg (by omega)]; omega⟩
  rcases Nat.mod_two_eq_zero_or_one k with h | h
  · have := (key (k / 2) (by omega)).1
    rwa [show 2 * (k / 2) = k by omega] at this
  · have := (key (k / 2) (by omega)).2
    rwa [show 2 * (k / 2) + 1 = k by omega] at this
theorem six_of (a : Nat → Int) (ha : b16 a) (b m : Nat) (hbm : b + m ≤ 8) (hz : ∀ j, b ≤ j → j < 8 - m → gp a j = 0) (s : ByteArray) (hl : sixL s = pLR a b m) (hg : (cutB s ⟨#[58, 58]⟩).2.2 = true ∨ b = 8) :
    (six s).2 = true ∧ ∀ k, k < 16 → (six s).1 k = a k := by
  have l1 : (pLR a b m).l.length = b := by simp [pLR, gL_len]
  have l2 : (pLR a b m).r.length = m := by simp [pLR, gL_len]
  have e : six s = (sixA (pLR a b m) (b + m), true) := by
    unfold six
    rw [hl, l1, l2, if_pos ⟨⟨hbm, hg⟩, sixOk_p a ha b m hbm _ (Nat.le_refl _)⟩]
  rw [e]
  exact ⟨rfl, fun k hk => sixA_all a ha b m hbm hz k hk⟩
theorem six_prn (a : Nat → Int) (ha : b16 a) (h4 : is4 a = false) : (six (prn a)).2 = true ∧ ∀ k, k < 16 → (six (prn a)).1 k = a k := by
  rcases prn_six a ha h4 with ⟨h, -⟩ | ⟨b, r, hr, hbr, hz, h⟩
  · have ho := gL_ok a ha 0 8 (by omega)
    have hc : cutB (prn a) ⟨#[58, 58]⟩ = (mk8 (cjn (gL a 0 8)), mk8 [], false) := by
      unfold cutB
      rw [h, show ((⟨#[58, 58]⟩ : ByteArray).data.toList) = [58, 58] from rfl, cut_no _ (clc_cjn _ ho)]
    refine six_of a ha 8 0 (by omega) (fun j h1 h2 => absurd h2 (by omega)) _ ?_ (.inr rfl)
    unfold sixL pLR
    rw [hc]
    dsimp only
    rw [side_cjn _ ho]
    rfl
  · have ho := gL_ok a ha 0 b (by omega)
    have ho2 := gL_ok a ha (b + r) (8 - b - r) (by omega)
    have hc : cutB (prn a) ⟨#[58, 58]⟩ = (mk8 (cjn (gL a 0 b)), mk8 (cjn (gL a (b + r) (8 - b - r))), true) := by
      unfold cutB
      rw [h, show ((⟨#[58, 58]⟩ : ByteArray).data.toList) = [58, 58] from rfl, cut_at _ _ (clc_cjn _ ho)]
    refine six_of a ha b (8 - b - r) (by omega) (fun j h1 h2 => ?_) _ ?_ (.inl (by rw [hc]))
    · have := hz (j - b) (by omega)
      rwa [show b + (j - b) = j by omega] at this
    · unfold sixL pLR
      rw [hc]
      dsimp only
      rw [side_cjn _ ho, side_cjn _ ho2, show 8 - (8 - b - r) = b + r by omega]
end Go.Proofs.YtghmlhdlkgjbeaaDoorAv
set_option linter.unusedVariables false
set_option linter.unusedSimpArgs false
set_option maxRecDepth 100000
namespace Go.Proofs.YtghmlhdlkgjbeaaDoorAv
open Go Go.RowKit
theorem itoa_b : ∀ x : Fin 256, p10 (itoaB (x.val : Int)) = (0, x.val) ∧ ((46 : UInt8) ∉ (itoaB (x.val : Int)).data.toList ∧ (58 : UInt8) ∉ (itoaB (x.val : Int)).data.toList) ∧ (itoaB (x.val : Int)).data.toList ≠ [] := by decide +kernel
theorem itoa_bb (x : Int) (h : 0 ≤ x ∧ x ≤ 255) : p10 (itoaB x) = (0, x.toNat) ∧ ((46 : UInt8) ∉ (itoaB x).data.toList ∧ (58 : UInt8) ∉ (itoaB x).data.toList) ∧ (itoaB x).data.toList ≠ [] := by
  have := itoa_b ⟨x.toNat, by omega⟩
  have e : (((⟨x.toNat, by omega⟩ : Fin 256).val : Nat) : Int) = x := by
    show ((x.toNat : Nat) : Int) = x
    omega
  rw [e] at this
  exact this
/-- The text of an IPv4 address. -/
theorem prn_four (a : Nat → Int) (h4 : is4 a = true) : (prn a).data.toList = (prF a 0).data.toList ++ 46 :: ((prF a 1).data.toList ++ 46 :: ((prF a 2).data.toList ++ 46 :: (prF a 3).data.toList)) := by
  unfold prn
  rw [if_pos h4]
  show Lib.join [(prF a 0).data.toList, (prF a 1).data.toList, (prF a 2).data.toList, (prF a 3).data.toList] [46] = _
  simp [Lib.join, List.intercalate]
theorem is4_at (a : Nat → Int) (h4 : is4 a = true) : (∀ k, k < 10 → a k = 0) ∧ a 10 = 255 ∧ a 11 = 255 := by
  unfold is4 at h4
  simp only [Bool.and_eq_true, beq_iff_eq, and_true] at h4
  obtain ⟨h0, h1, h2, h3, h4, h5, h6, h7, h8, h9, h10, h11⟩ := h4
  refine ⟨fun k hk => ?_, h10, h11⟩
  match k, hk with
  | 0, _ => exact h0
  | 1, _ => exact h1
  | 2, _ => exact h2
  | 3, _ => exact h3
  | 4, _ => exact h4
  | 5, _ => exact h5
  | 6, _ => exact h6
  | 7, _ => exact h7
  | 8, _ => exact h8
  | 9, _ => exact h9
theorem is4_of (a : Nat → Int) (h : ∀ k, k < 10 → a k = 0) (h10 : a 10 = 255) (h11 : a 11 = 255) : is4 a = true := by
  unfold is4
  rw [h 0 (by omega), h 1 (by omega), h 2 (by omega), h 3 (by omega), h 4 (by omega), h 5 (by omega), h 6 (by omega), h 7 (by omega), h 8 (by omega), h 9 (by omega), h10, h11]
  rfl
theorem wrapB (x : Int) (h : 0 ≤ x ∧ x ≤ 255) : IntKind.u8.wrap ((x.toNat : Nat) : Int) = x := by
  have e : ∀ n : Int, IntKind.u8.wrap n = n % 256 := fun n => by simp [IntKind.wrap, IntKind.bits, IntKind.signed]
  rw [e]
  omega
theorem v4_at (a : Nat → Int) (h4 : is4 a = true) (k : Nat) (hk : k < 16) : v4 (a 12) (a 13) (a 14) (a 15) k = a k := by
  obtain ⟨h, h10, h11⟩ := is4_at a h4
  match k, hk with
  | 0, _ => exact (h 0 (by omega)).symm
  | 1, _ => exact (h 1 (by omega)).symm
  | 2, _ => exact (h 2 (by omega)).symm
  | 3, _ => exact (h 3 (by omega)).symm
  | 4, _ => exact (h 4 (by omega)).symm
  | 5, _ => exact (h 5 (by omega)).symm
  | 6, _ => exact (h 6 (by omega)).symm
  | 7, _ => exact (h 7 (by omega)).symm
  | 8, _ => exact (h 8 (by omega)).symm
  | 9, _ => exact (h 9 (by omega)).symm
  | 10, _ => exact h10.symm
  | 11, _ => exact h11.symm
  | 12, _ => rfl
  | 13, _ => rfl
  | 14, _ => rfl
  | 15, _ => rfl
  | k + 16, hk => exact absurd hk (by omega)
theorem fourP_prn (a : Nat → Int) (ha : b16 a) (h4 : is4 a = true) : fourP (prn a) = [prF a 0, prF a 1, prF a 2, prF a 3] := by
  have i0 := itoa_bb (a 12) (ha 12 (by omega))
  have i1 := itoa_bb (a 13) (ha 13 (by omega))
  have i2 := itoa_bb (a 14) (ha 14 (by omega))
  have i3 := itoa_bb (a 15) (ha 15 (by omega))
  have n0 : (46 : UInt8) ∉ (prF a 0).data.toList := i0.2.1.1
  have n1 : (46 : UInt8) ∉ (prF a 1).data.toList := i1.2.1.1
  have n2 : (46 : UInt8) ∉ (prF a 2).data.toList := i2.2.1.1
  have n3 : (46 : UInt8) ∉ (prF a 3).data.toList := i3.2.1.1
  unfold fourP
  rw [splitS_one, prn_four a h4, sp_at 46 _ _ n0, sp_at 46 _ _ n1, sp_at 46 _ _ n2, sp_no 46 _ n3]
  rfl
theorem four_prn (a : Nat → Int) (ha : b16 a) (h4 : is4 a = true) : (four (prn a)).2 = true ∧ ∀ k, k < 16 → (four (prn a)).1 k = a k := by
  have i0 := itoa_bb (a 12) (ha 12 (by omega))
  have i1 := itoa_bb (a 13) (ha 13 (by omega))
  have i2 := itoa_bb (a 14) (ha 14 (by omega))
  have i3 := itoa_bb (a 15) (ha 15 (by omega))
  have e : four (prn a) = (v4 (a 12) (a 13) (a 14) (a 15), true) := by
    unfold four
    rw [fourP_prn a ha h4]
    have p0 : p10 (prF a 0) = (0, (a 12).toNat) := i0.1
    have p1 : p10 (prF a 1) = (0, (a 13).toNat) := i1.1
    have p2 : p10 (prF a 2) = (0, (a 14).toNat) := i2.1
    have p3 : p10 (prF a 3) = (0, (a 15).toNat) := i3.1
    have ok : fourOk [prF a 0, prF a 1, prF a 2, prF a 3] 4 = true := by
      show ((((true && decide ((p10 (prF a 0)).1 = 0)) && decide ((p10 (prF a 1)).1 = 0)) && decide ((p10 (prF a 2)).1 = 0)) && decide ((p10 (prF a 3)).1 = 0)) = true
      rw [p0, p1, p2, p3]
      rfl
    have f0 : fourF [prF a 0, prF a 1, prF a 2, prF a 3] 4 0 = a 12 := by
      show IntKind.u8.wrap ((p10 (prF a 0)).2 : Int) = _
      rw [p0]; exact wrapB _ (ha 12 (by omega))
    have f1 : fourF [prF a 0, prF a 1, prF a 2, prF a 3] 4 1 = a 13 := by
      show IntKind.u8.wrap ((p10 (prF a 1)).2 : Int) = _
      rw [p1]; exact wrapB _ (ha 13 (by omega))
    have f2 : fourF [prF a 0, prF a 1, prF a 2, prF a 3] 4 2 = a 14 := by
      show IntKind.u8.wrap ((p10 (prF a 2)).2 : Int) = _
      rw [p2]; exact wrapB _ (ha 14 (by omega))
    have f3 : fourF [prF a 0, prF a 1, prF a 2, prF a 3] 4 3 = a 15 := by
      show IntKind.u8.wrap ((p10 (prF a 3)).2 : Int) = _
      rw [p3]; exact wrapB _ (ha 15 (by omega))
    rw [if_pos ⟨rfl, ok⟩, f0, f1, f2, f3]
  rw [e]
  exact ⟨rfl, fun k hk => v4_at a h4 k hk⟩
theorem cjn_nodot : ∀ l, okG l → (46 : UInt8) ∉ cjn l
  | [], _ => by simp [cjn]
  | [x], h => (h x (by simp)).2.2
  | x :: y :: l, h => by
    have h' : okG (y :: l) := fun z hz => h z (List.mem_cons_of_mem _ hz)
    have ih := cjn_nodot (y :: l) h'
    rw [cjn_cons x _ (by simp)]
    intro hm
    rcases List.mem_append.1 hm with hm | hm
    · exact (h x (by simp)).2.2 hm
    · rcases List.mem_cons.1 hm with hm | hm
      · exact absurd hm (by decide)
      · exact ih hm
theorem prn_nodot (a : Nat → Int) (ha : b16 a) (h4 : is4 a = false) : (46 : UInt8) ∉ (prn a).data.toList := by
  rcases prn_six a ha h4 with ⟨h, -⟩ | ⟨b, r, hr, hbr, hz, h⟩
  · rw [h]
    exact cjn_nodot _ (gL_ok a ha 0 8 (by omega))
  · rw [h]
    intro hm
    rcases List.mem_append.1 hm with hm | hm
    · exact cjn_nodot _ (gL_ok a ha 0 b (by omega)) hm
    · rcases List.mem_cons.1 hm with hm | hm
      · exact absurd hm (by decide)
      · rcases List.mem_cons.1 hm with hm | hm
        · exact absurd hm (by decide)
        · exact cjn_nodot _ (gL_ok a ha (b + r) (8 - b - r) (by omega)) hm
theorem four_not (s : ByteArray) (h : (46 : UInt8) ∉ s.data.toList) : (four s).2 = false := by
  unfold four fourP
  rw [splitS_one, sp_no 46 _ h, if_neg]
  rintro ⟨h1, -⟩
  exact absurd h1 (by show ¬ 1 = 4; omega)
/-- What Print writes is read back. -/
theorem parB_prn (a : Nat → Int) (ha : b16 a) : ((four (prn a)).2 || (six (prn a)).2) = true ∧ ∀ k, k < 16 → parB (prn a) k = a k := by
  cases h4 : is4 a with
  | true =>
    obtain ⟨h1, h2⟩ := four_prn a ha h4
    unfold parB
    rw [if_pos h1, h1]
    exact ⟨rfl, h2⟩
  | false =>
    have h0 := four_not _ (prn_nodot a ha h4)
    obtain ⟨h1, h2⟩ := six_prn a ha h4
    unfold parB
    rw [if_neg (by rw [h0]; decide), h1, h0]
    exact ⟨rfl, h2⟩
theorem parOk_prn (a : Nat → Int) (ha : b16 a) : parOk (prn a) = true := by
  obtain ⟨h1, h2⟩ := parB_prn a ha
  unfold parOk
  rw [h1, prn_ext h2, decide_eq_true rfl]
  rfl
theorem parN_prn (a : Nat → Int) (ha : b16 a) : parN (prn a) = 0 := if_pos (parOk_prn a ha)
theorem parA_prn (a : Nat → Int) (ha : b16 a) (k : Nat) (hk : k < 16) : parA (prn a) k = a k := by
  unfold parA
  rw [if_pos (parOk_prn a ha)]
  exact (parB_prn a ha).2 k hk
theorem prn_inj (a b : Nat → Int) (ha : b16 a) (hb : b16 b) (h : prn a = prn b) (k : Nat) (hk : k < 16) : a k = b k := by
  rw [← parA_prn a ha k hk, h, parA_prn b hb k hk]
/-- A text that Parse takes is one that Print writes. -/
theorem parOk_of (s : ByteArray) (h : parOk s = true) : ∃ a, b16 a ∧ prn a = s := by
  unfold parOk at h
  rw [Bool.and_eq_true] at h
  exact ⟨parB s, parB_b s, of_decide_eq_true h.2⟩
theorem cjn_size : ∀ l, (∀ x ∈ l, x.length ≤ 4) → (cjn l).length ≤ 5 * l.length
  | [], _ => Nat.le_refl _
  | [x], h => by
    have := h x (by simp)
    show x.length ≤ 5
    omega
  | x :: y :: l, h => by
    have h1 := h x (by simp)
    have ih := cjn_size (y :: l) (fun z hz => h z (List.mem_cons_of_mem _ hz))
    rw [cjn_cons x _ (by simp), List.length_append, List.length_cons, List.length_cons]
    omega
theorem prn_size (a : Nat → Int) (ha : b16 a) : (prn a).size ≤ 64 := by
  cases h4 : is4 a with
  | true =>
    have s : ∀ j, j < 4 → (prF a j).data.toList.length ≤ 3 := fun j hj => by
      rw [← size_data]
      have h := ha (12 + j) (by omega)
      have := itoaB_byte ⟨(a (12 + j)).toNat, by omega⟩
      rw [show (((⟨(a (12 + j)).toNat, by omega⟩ : Fin 256).val : Nat) : Int) = a (12 + j) by show (((a (12 + j)).toNat : Nat) : Int) = _; omega] at this
      exact this
    have h0 := s 0 (by omega)
    have h1 := s 1 (by omega)
    have h2 := s 2 (by omega)
    have h3 := s 3 (by omega)
    rw [size_data, prn_four a h4]
    simp only [List.length_append, List.length_cons]
    omega
  | false =>
    unfold prn
    rw [if_neg (by rw [h4]; decide)]
    exact prT_size a _ _ 8
end Go.Proofs.YtghmlhdlkgjbeaaDoorAv
set_option linter.unusedVariables false
set_option linter.unusedSimpArgs false
set_option maxRecDepth 100000
namespace Go.Proofs.YtghmlhdlkgjbeaaDoorAv
open Go Go.RowKit
def shC : CT := C2 dAL dAL (fun _ _ => []) fun g h => XI (shF g h 16 0)
theorem shL_ok : CTok Tryd.prog 16 shC := C2_ok cx0_ok Tryd.func16 rfl (by decide) dAL_eq.ok dAL_eq.ok (by kernel_rfl) (fun _ _ => rfl) fun g h _ => exv (shV_eq g h) (sh_v g h)
def cxj : Cx := { cx0 with C := [(11, fitC), (14, is4L), (15, v4C), (16, shC), (13, prnC), (12, parC)] }
theorem cxj_ok : cxj.ok Tryd.prog := (((((cx0_ok.addC pa_ok).addC pr_ok).addC shL_ok).addC v4_ok).addC is4L_ok).addC fit_ok
def backV (a : Nat → Int) (s : ByteArray) : Prop :=
  ((!true) = true → false = true) ∧ ((!true) = false → (decide ((↑s.size : Int) > (100 : Int)) = true → true = true) ∧ (decide ((↑s.size : Int) > (100 : Int)) = false → (b16 fun (i : Nat) => [a (0 : Nat), a (1 : Nat), a (2 : Nat), a (3 : Nat), a (4 : Nat), a (5 : Nat), a (6 : Nat), a (7 : Nat), a (8 : Nat), a (9 : Nat), a (10 : Nat), a (11 : Nat), a (12 : Nat), a (13 : Nat), a (14 : Nat), a (15 : Nat)].getD i (0 : Int)) ∧ (prn fun (i : Nat) => [a (0 : Nat), a (1 : Nat), a (2 : Nat), a (3 : Nat), a (4 : Nat), a (5 : Nat), a (6 : Nat), a (7 : Nat), a (8 : Nat), a (9 : Nat), a (10 : Nat), a (11 : Nat), a (12 : Nat), a (13 : Nat), a (14 : Nat), a (15 : Nat)].getD i (0 : Int)).size ≤ (1000000 : Nat) ∧ s.size ≤ (1000000 : Nat) ∧ ((parN (prn fun (i : Nat) => [a (0 : Nat), a (1 : Nat), a (2 : Nat), a (3 : Nat), a (4 : Nat), a (5 : Nat), a (6 : Nat), a (7 : Nat), a (8 : Nat), a (9 : Nat), a (10 : Nat), a (11 : Nat), a (12 : Nat), a (13 : Nat), a (14 : Nat), a (15 : Nat)].getD i (0 : Int)) == (0 : Int) && (parA (prn fun (i : Nat) => [a (0 : Nat), a (1 : Nat), a (2 : Nat), a (3 : Nat), a (4 : Nat), a (5 : Nat), a (6 : Nat), a (7 : Nat), a (8 : Nat), a (9 : Nat), a (10 : Nat), a (11 : Nat), a (12 : Nat), a (13 : Nat), a (14 : Nat), a (15 : Nat)].getD i (0 : Int)) (0 : Nat) == a (0 : Nat) && (parA (prn fun (i : Nat) => [a (0 : Nat), a (1 : Nat), a (2 : Nat), a (3 : Nat), a (4 : Nat), a (5 : Nat), a (6 : Nat), a (7 : Nat), a (8 : Nat), a (9 : Nat), a (10 : Nat), a (11 : Nat), a (12 : Nat), a (13 : Nat), a (14 : Nat), a (15 : Nat)].getD i (0 : Int)) (1 : Nat) == a (1 : Nat) && (parA (prn fun (i : Nat) => [a (0 : Nat), a (1 : Nat), a (2 : Nat), a (3 : Nat), a (4 : Nat), a (5 : Nat), a (6 : Nat), a (7 : Nat), a (8 : Nat), a (9 : Nat), a (10 : Nat), a (11 : Nat), a (12 : Nat), a (13 : Nat), a (14 : Nat), a (15 : Nat)].getD i (0 : Int)) (2 : Nat) == a (2 : Nat) && (parA (prn fun (i : Nat) => [a (0 : Nat), a (1 : Nat), a (2 : Nat), a (3 : Nat), a (4 : Nat), a (5 : Nat), a (6 : Nat), a (7 : Nat), a (8 : Nat), a (9 : Nat), a (10 : Nat), a (11 : Nat), a (12 : Nat), a (13 : Nat), a (14 : Nat), a (15 : Nat)].getD i (0 : Int)) (3 : Nat) == a (3 : Nat) && (parA (prn fun (i : Nat) => [a (0 : Nat), a (1 : Nat), a (2 : Nat), a (3 : Nat), a (4 : Nat), a (5 : Nat), a (6 : Nat), a (7 : Nat), a (8 : Nat), a (9 : Nat), a (10 : Nat), a (11 : Nat), a (12 : Nat), a (13 : Nat), a (14 : Nat), a (15 : Nat)].getD i (0 : Int)) (4 : Nat) == a (4 : Nat) && (parA (prn fun (i : Nat) => [a (0 : Nat), a (1 : Nat), a (2 : Nat), a (3 : Nat), a (4 : Nat), a (5 : Nat), a (6 : Nat), a (7 : Nat), a (8 : Nat), a (9 : Nat), a (10 : Nat), a (11 : Nat), a (12 : Nat), a (13 : Nat), a (14 : Nat), a (15 : Nat)].getD i (0 : Int)) (5 : Nat) == a (5 : Nat) && (parA (prn fun (i : Nat) => [a (0 : Nat), a (1 : Nat), a (2 : Nat), a (3 : Nat), a (4 : Nat), a (5 : Nat), a (6 : Nat), a (7 : Nat), a (8 : Nat), a (9 : Nat), a (10 : Nat), a (11 : Nat), a (12 : Nat), a (13 : Nat), a (14 : Nat), a (15 : Nat)].getD i (0 : Int)) (6 : Nat) == a (6 : Nat) && (parA (prn fun (i : Nat) => [a (0 : Nat), a (1 : Nat), a (2 : Nat), a (3 : Nat), a (4 : Nat), a (5 : Nat), a (6 : Nat), a (7 : Nat), a (8 : Nat), a (9 : Nat), a (10 : Nat), a (11 : Nat), a (12 : Nat), a (13 : Nat), a (14 : Nat), a (15 : Nat)].getD i (0 : Int)) (7 : Nat) == a (7 : Nat) && (parA (prn fun (i : Nat) => [a (0 : Nat), a (1 : Nat), a (2 : Nat), a (3 : Nat), a (4 : Nat), a (5 : Nat), a (6 : Nat), a (7 : Nat), a (8 : Nat), a (9 : Nat), a (10 : Nat), a (11 : Nat), a (12 : Nat), a (13 : Nat), a (14 : Nat), a (15 : Nat)].getD i (0 : Int)) (8 : Nat) == a (8 : Nat) && (parA (prn fun (i : Nat) => [a (0 : Nat), a (1 : Nat), a (2 : Nat), a (3 : Nat), a (4 : Nat), a (5 : Nat), a (6 : Nat), a (7 : Nat), a (8 : Nat), a (9 : Nat), a (10 : Nat), a (11 : Nat), a (12 : Nat), a (13 : Nat), a (14 : Nat), a (15 : Nat)].getD i (0 : Int)) (9 : Nat) == a (9 : Nat) && (parA (prn fun (i : Nat) => [a (0 : Nat), a (1 : Nat), a (2 : Nat), a (3 : Nat), a (4 : Nat), a (5 : Nat), a (6 : Nat), a (7 : Nat), a (8 : Nat), a (9 : Nat), a (10 : Nat), a (11 : Nat), a (12 : Nat), a (13 : Nat), a (14 : Nat), a (15 : Nat)].getD i (0 : Int)) (10 : Nat) == a (10 : Nat) && (parA (prn fun (i : Nat) => [a (0 : Nat), a (1 : Nat), a (2 : Nat), a (3 : Nat), a (4 : Nat), a (5 : Nat), a (6 : Nat), a (7 : Nat), a (8 : Nat), a (9 : Nat), a (10 : Nat), a (11 : Nat), a (12 : Nat), a (13 : Nat), a (14 : Nat), a (15 : Nat)].getD i (0 : Int)) (11 : Nat) == a (11 : Nat) && (parA (prn fun (i : Nat) => [a (0 : Nat), a (1 : Nat), a (2 : Nat), a (3 : Nat), a (4 : Nat), a (5 : Nat), a (6 : Nat), a (7 : Nat), a (8 : Nat), a (9 : Nat), a (10 : Nat), a (11 : Nat), a (12 : Nat), a (13 : Nat), a (14 : Nat), a (15 : Nat)].getD i (0 : Int)) (12 : Nat) == a (12 : Nat) && (parA (prn fun (i : Nat) => [a (0 : Nat), a (1 : Nat), a (2 : Nat), a (3 : Nat), a (4 : Nat), a (5 : Nat), a (6 : Nat), a (7 : Nat), a (8 : Nat), a (9 : Nat), a (10 : Nat), a (11 : Nat), a (12 : Nat), a (13 : Nat), a (14 : Nat), a (15 : Nat)].getD i (0 : Int)) (13 : Nat) == a (13 : Nat) && (parA (prn fun (i : Nat) => [a (0 : Nat), a (1 : Nat), a (2 : Nat), a (3 : Nat), a (4 : Nat), a (5 : Nat), a (6 : Nat), a (7 : Nat), a (8 : Nat), a (9 : Nat), a (10 : Nat), a (11 : Nat), a (12 : Nat), a (13 : Nat), a (14 : Nat), a (15 : Nat)].getD i (0 : Int)) (14 : Nat) == a (14 : Nat) && (parA (prn fun (i : Nat) => [a (0 : Nat), a (1 : Nat), a (2 : Nat), a (3 : Nat), a (4 : Nat), a (5 : Nat), a (6 : Nat), a (7 : Nat), a (8 : Nat), a (9 : Nat), a (10 : Nat), a (11 : Nat), a (12 : Nat), a (13 : Nat), a (14 : Nat), a (15 : Nat)].getD i (0 : Int)) (15 : Nat) == a (15 : Nat) && true)))))))))))))))) && parN s == (0 : Int)) = true → b16 fun (i : Nat) => [parA s (0 : Nat), parA s (1 : Nat), parA s (2 : Nat), parA s (3 : Nat), parA s (4 : Nat), parA s (5 : Nat), parA s (6 : Nat), parA s (7 : Nat), parA s (8 : Nat), parA s (9 : Nat), parA s (10 : Nat), parA s (11 : Nat), parA s (12 : Nat), parA s (13 : Nat), parA s (14 : Nat), parA s (15 : Nat)].getD i (0 : Int)) ∧ (parN (prn fun (i : Nat) => [a (0 : Nat), a (1 : Nat), a (2 : Nat), a (3 : Nat), a (4 : Nat), a (5 : Nat), a (6 : Nat), a (7 : Nat), a (8 : Nat), a (9 : Nat), a (10 : Nat), a (11 : Nat), a (12 : Nat), a (13 : Nat), a (14 : Nat), a (15 : Nat)].getD i (0 : Int)) == (0 : Int) && (parA (prn fun (i : Nat) => [a (0 : Nat), a (1 : Nat), a (2 : Nat), a (3 : Nat), a (4 : Nat), a (5 : Nat), a (6 : Nat), a (7 : Nat), a (8 : Nat), a (9 : Nat), a (10 : Nat), a (11 : Nat), a (12 : Nat), a (13 : Nat), a (14 : Nat), a (15 : Nat)].getD i (0 : Int)) (0 : Nat) == a (0 : Nat) && (parA (prn fun (i : Nat) => [a (0 : Nat), a (1 : Nat), a (2 : Nat), a (3 : Nat), a (4 : Nat), a (5 : Nat), a (6 : Nat), a (7 : Nat), a (8 : Nat), a (9 : Nat), a (10 : Nat), a (11 : Nat), a (12 : Nat), a (13 : Nat), a (14 : Nat), a (15 : Nat)].getD i (0 : Int)) (1 : Nat) == a (1 : Nat) && (parA (prn fun (i : Nat) => [a (0 : Nat), a (1 : Nat), a (2 : Nat), a (3 : Nat), a (4 : Nat), a (5 : Nat), a (6 : Nat), a (7 : Nat), a (8 : Nat), a (9 : Nat), a (10 : Nat), a (11 : Nat), a (12 : Nat), a (13 : Nat), a (14 : Nat), a (15 : Nat)].getD i (0 : Int)) (2 : Nat) == a (2 : Nat) && (parA (prn fun (i : Nat) => [a (0 : Nat), a (1 : Nat), a (2 : Nat), a (3 : Nat), a (4 : Nat), a (5 : Nat), a (6 : Nat), a (7 : Nat), a (8 : Nat), a (9 : Nat), a (10 : Nat), a (11 : Nat), a (12 : Nat), a (13 : Nat), a (14 : Nat), a (15 : Nat)].getD i (0 : Int)) (3 : Nat) == a (3 : Nat) && (parA (prn fun (i : Nat) => [a (0 : Nat), a (1 : Nat), a (2 : Nat), a (3 : Nat), a (4 : Nat), a (5 : Nat), a (6 : Nat), a (7 : Nat), a (8 : Nat), a (9 : Nat), a (10 : Nat), a (11 : Nat), a (12 : Nat), a (13 : Nat), a (14 : Nat), a (15 : Nat)].getD i (0 : Int)) (4 : Nat) == a (4 : Nat) && (parA (prn fun (i : Nat) => [a (0 : Nat), a (1 : Nat), a (2 : Nat), a (3 : Nat), a (4 : Nat), a (5 : Nat), a (6 : Nat), a (7 : Nat), a (8 : Nat), a (9 : Nat), a (10 : Nat), a (11 : Nat), a (12 : Nat), a (13 : Nat), a (14 : Nat), a (15 : Nat)].getD i (0 : Int)) (5 : Nat) == a (5 : Nat) && (parA (prn fun (i : Nat) => [a (0 : Nat), a (1 : Nat), a (2 : Nat), a (3 : Nat), a (4 : Nat), a (5 : Nat), a (6 : Nat), a (7 : Nat), a (8 : Nat), a (9 : Nat), a (10 : Nat), a (11 : Nat), a (12 : Nat), a (13 : Nat), a (14 : Nat), a (15 : Nat)].getD i (0 : Int)) (6 : Nat) == a (6 : Nat) && (parA (prn fun (i : Nat) => [a (0 : Nat), a (1 : Nat), a (2 : Nat), a (3 : Nat), a (4 : Nat), a (5 : Nat), a (6 : Nat), a (7 : Nat), a (8 : Nat), a (9 : Nat), a (10 : Nat), a (11 : Nat), a (12 : Nat), a (13 : Nat), a (14 : Nat), a (15 : Nat)].getD i (0 : Int)) (7 : Nat) == a (7 : Nat) && (parA (prn fun (i : Nat) => [a (0 : Nat), a (1 : Nat), a (2 : Nat), a (3 : Nat), a (4 : Nat), a (5 : Nat), a (6 : Nat), a (7 : Nat), a (8 : Nat), a (9 : Nat), a (10 : Nat), a (11 : Nat), a (12 : Nat), a (13 : Nat), a (14 : Nat), a (15 : Nat)].getD i (0 : Int)) (8 : Nat) == a (8 : Nat) && (parA (prn fun (i : Nat) => [a (0 : Nat), a (1 : Nat), a (2 : Nat), a (3 : Nat), a (4 : Nat), a (5 : Nat), a (6 : Nat), a (7 : Nat), a (8 : Nat), a (9 : Nat), a (10 : Nat), a (11 : Nat), a (12 : Nat), a (13 : Nat), a (14 : Nat), a (15 : Nat)].getD i (0 : Int)) (9 : Nat) == a (9 : Nat) && (parA (prn fun (i : Nat) => [a (0 : Nat), a (1 : Nat), a (2 : Nat), a (3 : Nat), a (4 : Nat), a (5 : Nat), a (6 : Nat), a (7 : Nat), a (8 : Nat), a (9 : Nat), a (10 : Nat), a (11 : Nat), a (12 : Nat), a (13 : Nat), a (14 : Nat), a (15 : Nat)].getD i (0 : Int)) (10 : Nat) == a (10 : Nat) && (parA (prn fun (i : Nat) => [a (0 : Nat), a (1 : Nat), a (2 : Nat), a (3 : Nat), a (4 : Nat), a (5 : Nat), a (6 : Nat), a (7 : Nat), a (8 : Nat), a (9 : Nat), a (10 : Nat), a (11 : Nat), a (12 : Nat), a (13 : Nat), a (14 : Nat), a (15 : Nat)].getD i (0 : Int)) (11 : Nat) == a (11 : Nat) && (parA (prn fun (i : Nat) => [a (0 : Nat), a (1 : Nat), a (2 : Nat), a (3 : Nat), a (4 : Nat), a (5 : Nat), a (6 : Nat), a (7 : Nat), a (8 : Nat), a (9 : Nat), a (10 : Nat), a (11 : Nat), a (12 : Nat), a (13 : Nat), a (14 : Nat), a (15 : Nat)].getD i (0 : Int)) (12 : Nat) == a (12 : Nat) && (parA (prn fun (i : Nat) => [a (0 : Nat), a (1 : Nat), a (2 : Nat), a (3 : Nat), a (4 : Nat), a (5 : Nat), a (6 : Nat), a (7 : Nat), a (8 : Nat), a (9 : Nat), a (10 : Nat), a (11 : Nat), a (12 : Nat), a (13 : Nat), a (14 : Nat), a (15 : Nat)].getD i (0 : Int)) (13 : Nat) == a (13 : Nat) && (parA (prn fun (i : Nat) => [a (0 : Nat), a (1 : Nat), a (2 : Nat), a (3 : Nat), a (4 : Nat), a (5 : Nat), a (6 : Nat), a (7 : Nat), a (8 : Nat), a (9 : Nat), a (10 : Nat), a (11 : Nat), a (12 : Nat), a (13 : Nat), a (14 : Nat), a (15 : Nat)].getD i (0 : Int)) (14 : Nat) == a (14 : Nat) && (parA (prn fun (i : Nat) => [a (0 : Nat), a (1 : Nat), a (2 : Nat), a (3 : Nat), a (4 : Nat), a (5 : Nat), a (6 : Nat), a (7 : Nat), a (8 : Nat), a (9 : Nat), a (10 : Nat), a (11 : Nat), a (12 : Nat), a (13 : Nat), a (14 : Nat), a (15 : Nat)].getD i (0 : Int)) (15 : Nat) == a (15 : Nat) && true)))))))))))))))) && (parN s == (0 : Int) && decide ((prn fun (i : Nat) => [parA s (0 : Nat), parA s (1 : Nat), parA s (2 : Nat), parA s (3 : Nat), parA s (4 : Nat), parA s (5 : Nat), parA s (6 : Nat), parA s (7 : Nat), parA s (8 : Nat), parA s (9 : Nat), parA s (10 : Nat), parA s (11 : Nat), parA s (12 : Nat), parA s (13 : Nat), parA s (14 : Nat), parA s (15 : Nat)].getD i (0 : Int)) = s) || parN s == (5 : Int) && (parA s (0 : Nat) == (0 : Int) && (parA s (1 : Nat) == (0 : Int) && (parA s (2 : Nat) == (0 : Int) && (parA s (3 : Nat) == (0 : Int) && (parA s (4 : Nat) == (0 : Int) && (parA s (5 : Nat) == (0 : Int) && (parA s (6 : Nat) == (0 : Int) && (parA s (7 : Nat) == (0 : Int) && (parA s (8 : Nat) == (0 : Int) && (parA s (9 : Nat) == (0 : Int) && (parA s (10 : Nat) == (0 : Int) && (parA s (11 : Nat) == (0 : Int) && (parA s (12 : Nat) == (0 : Int) && (parA s (13 : Nat) == (0 : Int) && (parA s (14 : Nat) == (0 : Int) && (parA s (15 : Nat) == (0 : Int) && true)))))))))))))))))) = true))
theorem backV_eq (a : Nat → Int) (s : ByteArray) : backV a s = (funC cxj Tryd.f3 .nil [adr a, XT s] (XB true)) := by kernel_rfl
def apartV (a b : Nat → Int) : Prop :=
  ((!true) = true → false = true) ∧ ((!true) = false → (b16 fun (i : Nat) => [a (0 : Nat), a (1 : Nat), a (2 : Nat), a (3 : Nat), a (4 : Nat), a (5 : Nat), a (6 : Nat), a (7 : Nat), a (8 : Nat), a (9 : Nat), a (10 : Nat), a (11 : Nat), a (12 : Nat), a (13 : Nat), a (14 : Nat), a (15 : Nat)].getD i (0 : Int)) ∧ (b16 fun (i : Nat) => [b (0 : Nat), b (1 : Nat), b (2 : Nat), b (3 : Nat), b (4 : Nat), b (5 : Nat), b (6 : Nat), b (7 : Nat), b (8 : Nat), b (9 : Nat), b (10 : Nat), b (11 : Nat), b (12 : Nat), b (13 : Nat), b (14 : Nat), b (15 : Nat)].getD i (0 : Int)) ∧ (decide ((prn fun (i : Nat) => [a (0 : Nat), a (1 : Nat), a (2 : Nat), a (3 : Nat), a (4 : Nat), a (5 : Nat), a (6 : Nat), a (7 : Nat), a (8 : Nat), a (9 : Nat), a (10 : Nat), a (11 : Nat), a (12 : Nat), a (13 : Nat), a (14 : Nat), a (15 : Nat)].getD i (0 : Int)) = prn fun (i : Nat) => [b (0 : Nat), b (1 : Nat), b (2 : Nat), b (3 : Nat), b (4 : Nat), b (5 : Nat), b (6 : Nat), b (7 : Nat), b (8 : Nat), b (9 : Nat), b (10 : Nat), b (11 : Nat), b (12 : Nat), b (13 : Nat), b (14 : Nat), b (15 : Nat)].getD i (0 : Int)) == (a (0 : Nat) == b (0 : Nat) && (a (1 : Nat) == b (1 : Nat) && (a (2 : Nat) == b (2 : Nat) && (a (3 : Nat) == b (3 : Nat) && (a (4 : Nat) == b (4 : Nat) && (a (5 : Nat) == b (5 : Nat) && (a (6 : Nat) == b (6 : Nat) && (a (7 : Nat) == b (7 : Nat) && (a (8 : Nat) == b (8 : Nat) && (a (9 : Nat) == b (9 : Nat) && (a (10 : Nat) == b (10 : Nat) && (a (11 : Nat) == b (11 : Nat) && (a (12 : Nat) == b (12 : Nat) && (a (13 : Nat) == b (13 : Nat) && (a (14 : Nat) == b (14 : Nat) && (a (15 : Nat) == b (15 : Nat) && true))))))))))))))))) = true)
theorem apartV_eq (a b : Nat → Int) : apartV a b = (funC cxj Tryd.f6 .nil [adr a, adr b] (XB true)) := by kernel_rfl
/-- Are sixteen bytes the same? -/
def eq16 (f g : Nat → Int) : Bool := f 0 == g 0 && (f 1 == g 1 && (f 2 == g 2 && (f 3 == g 3 && (f 4 == g 4 && (f 5 == g 5 && (f 6 == g 6 && (f 7 == g 7 && (f 8 == g 8 && (f 9 == g 9 && (f 10 == g 10 && (f 11 == g 11 && (f 12 == g 12 && (f 13 == g 13 && (f 14 == g 14 && (f 15 == g 15 && true)))))))))))))))
theorem eq16_iff (f g : Nat → Int) : eq16 f g = true ↔ ∀ k, k < 16 → f k = g k := by
  constructor
  · intro h
    unfold eq16 at h
    simp only [Bool.and_eq_true, beq_iff_eq, and_true] at h
    obtain ⟨h0, h1, h2, h3, h4, h5, h6, h7, h8, h9, h10, h11, h12, h13, h14, h15⟩ := h
    intro k hk
    match k, hk with
    | 0, _ => exact h0
    | 1, _ => exact h1
    | 2, _ => exact h2
    | 3, _ => exact h3
    | 4, _ => exact h4
    | 5, _ => exact h5
    | 6, _ => exact h6
    | 7, _ => exact h7
    | 8, _ => exact h8
    | 9, _ => exact h9
    | 10, _ => exact h10
    | 11, _ => exact h11
    | 12, _ => exact h12
    | 13, _ => exact h13
    | 14, _ => exact h14
    | 15, _ => exact h15
    | k + 16, hk => exact absurd hk (by omega)
  · intro h
    unfold eq16
    rw [h 0 (by omega), h 1 (by omega), h 2 (by omega), h 3 (by omega), h 4 (by omega), h 5 (by omega), h 6 (by omega), h 7 (by omega), h 8 (by omega), h 9 (by omega), h 10 (by omega), h 11 (by omega), h 12 (by omega), h 13 (by omega), h 14 (by omega), h 15 (by omega)]
    simp
theorem back_v (a : Nat → Int) (ha : b16 a) (s : ByteArray) : backV a s := by
  unfold backV
  rw [prn_l a, prn_l (parA s)]
  refine ⟨fun h => absurd h (by decide), fun _ => ⟨fun _ => rfl, fun h => ⟨b16_l ha, ?_, ?_, fun _ => b16_l (parA_b s), ?_⟩⟩⟩
  · have := prn_size a ha
    omega
  · have h : ¬ (s.size : Int) > 100 := of_decide_eq_false h
    omega
  · show (parN (prn a) == 0 && eq16 (parA (prn a)) a && (parN s == 0 && decide (prn (parA s) = s) || parN s == 5 && eq16 (parA s) zeroA)) = true
    rw [parN_prn a ha, (eq16_iff _ _).2 (parA_prn a ha)]
    cases h : parOk s with
    | true =>
      have e1 : parN s = 0 := if_pos h
      have e2 : parA s = parB s := if_pos h
      have e3 : prn (parB s) = s := by
        unfold parOk at h
        rw [Bool.and_eq_true] at h
        exact of_decide_eq_true h.2
      rw [e1, e2, e3, decide_eq_true rfl]
      rfl
    | false =>
      have e1 : parN s = 5 := if_neg (by rw [h]; decide)
      have e2 : parA s = zeroA := if_neg (by rw [h]; decide)
      rw [e1, e2, (eq16_iff _ _).2 (fun _ _ => rfl)]
      rfl
theorem apart_v (a b : Nat → Int) (ha : b16 a) (hb : b16 b) : apartV a b := by
  unfold apartV
  rw [prn_l a, prn_l b]
  refine ⟨fun h => absurd h (by decide), fun _ => ⟨b16_l ha, b16_l hb, ?_⟩⟩
  show (decide (prn a = prn b) == eq16 a b) = true
  rw [beq_iff_eq, Bool.eq_iff_iff, decide_eq_true_iff, eq16_iff]
  exact ⟨fun h => prn_inj a b ha hb h, fun h => prn_ext h⟩
theorem back_ok : CTok Tryd.prog 3 (C2 dAL dStr (fun a _ => [b16 a]) fun _ _ => XB true) := C2_ok cxj_ok Tryd.func3 rfl (by decide) dAL_eq.ok dStr_eq.ok (by kernel_rfl) (fun _ _ => rfl) fun a s hc => exv (backV_eq a s) (back_v a (hc (b16 a) (.head _)) s)
theorem apart_ok : CTok Tryd.prog 6 (C2 dAL dAL (fun a b => [b16 a, b16 b]) fun _ _ => XB true) := C2_ok cxj_ok Tryd.func6 rfl (by decide) dAL_eq.ok dAL_eq.ok (by kernel_rfl) (fun _ _ => rfl) fun a b hc => exv (apartV_eq a b) (apart_v a b (hc (b16 a) (.head _)) (hc (b16 b) (.tail _ (.head _))))
end Go.Proofs.YtghmlhdlkgjbeaaDoorAv
set_option linter.unusedVariables false
set_option linter.unusedSimpArgs false
namespace Go.Proofs.YtghmlhdlkgjbeaaDoorAv
open Go Go.RowKit Go.ChangeShapes Go.WideShapes
theorem cells_strs_VSL (w : World) : ∀ l : List ByteArray, VSL noL w (l.map strAV) (l.map fun s => Value.string s)
  | [] => by simp [VSL]
  | s :: l => by simp only [List.map_cons, VSL, VS, strAV]; exact ⟨trivial, cells_strs_VSL w l⟩
theorem weightsAll_strs {H : Type} {P : Program} {e : TypeId} : ∀ {l : List ByteArray} {s : ByteArray}, s ∈ l → s.data.toList.length ∈ DataW.weightsAll (H := H) P e (strs l)
  | [], s, h => by cases h
  | x :: l, s, h => by
    rcases List.mem_cons.1 h with rfl | h
    · simp [strs, DataW.weightsAll, DataW.weights]
    · have := weightsAll_strs (H := H) (P := P) (e := e) h
      simp only [strs, List.map_cons, DataW.weightsAll, List.mem_append] at this ⊢
      exact .inr this
theorem open_strsAV {H : Type} {enc : TypeId × Value → H} {P : Program} {W : World} {t e : TypeId} {v : Value} {d : DataW H} {p : List MemPlace} {ts : List TypeId} {ds : List (DataW H)} {j : Nat}
    (ht : P.underlying t = some (.slice e)) (he : P.underlying e = some .string) (hc : P.cellsOf e = 1) (hb : P.bytesOf e = 16) (hv : ∃ a len cap, v = .slice a len cap)
    (h : DataW.Trod enc P W 0 (fun _ => true) true t v d p) (hsz : (DataW.weightsEach P ts ds).all (· ≤ reachBytes) = true) (htj : ts[j]? = some t) (hdj : ds[j]? = some d) :
    ∃ l : List ByteArray, VS noL W (strsAV l) v ∧ l.length ≤ 8796093022208 ∧ ∀ s ∈ l, s.size ≤ 140737488351232 := by
  obtain ⟨a0, len0, cap0, rfl⟩ := hv
  obtain ⟨fuel, hf⟩ := h
  rcases open_strings ht he hc hf with ⟨hcs, hx⟩ | ⟨a, len, cap, ss, hcs, _, hl, hm, hz, hx, hcell, hs⟩
  · refine ⟨[], ?_, by simp, by simp⟩
    simp [Value.cells] at hcs
    obtain ⟨rfl, rfl, rfl⟩ := hcs
    simp only [strsAV, VS, List.length_nil, List.map_nil]
    exact ⟨none, 0, [], rfl, Nat.le_refl _, .inl rfl, by simp [VSL]⟩
  · simp [Value.cells] at hcs
    obtain ⟨rfl, rfl, rfl⟩ := hcs
    simp only [Prod.mk.injEq] at hx
    obtain ⟨rfl, _⟩ := hx
    have hlen : ss.length = cap0 := by simpa using hz
    have hlt : (ss.take len0).length = len0 := by rw [List.length_take]; omega
    have hw := sized_slice hsz htj hdj ht
    have hwl : ∀ s ∈ ss.take len0, s.size ≤ 140737488351232 := by
      intro s hsm
      have hmem : s.data.toList.length ∈ DataW.weightsEach P ts ds := by
        refine DataW.weights_mem_each htj hdj _ ?_
        simp only [DataW.weights, ht, List.mem_cons, List.mem_append]
        exact .inr (.inl (weightsAll_strs hsm))
      have := List.all_eq_true.1 hsz _ hmem
      have e2 : s.data.toList.length = s.size := by rw [Array.length_toList]; rfl
      rw [e2] at this
      exact of_decide_eq_true this
    refine ⟨ss.take len0, ?_, ?_, hwl⟩
    · simp only [strsAV, VS, hlt]
      refine ⟨some a, cap0, (ss.take len0).map fun s => Value.string s, rfl, hl, .inr ⟨a, rfl, rfl, ?_, ?_⟩, cells_strs_VSL W _⟩
      · intro v hv
        obtain ⟨s, _, rfl⟩ := List.mem_map.1 hv
        rfl
      · intro i v hi
        rw [List.getElem?_map] at hi
        cases hg : (ss.take len0)[i]? with
        | none => rw [hg] at hi; cases hi
        | some s =>
          rw [hg] at hi
          obtain rfl := Option.some.inj hi
          have hi2 : i < (ss.take len0).length := (List.getElem?_eq_some_iff.1 hg).1
          have := hcell i (by omega)
          rw [this]
          rw [List.getElem?_take, if_pos (by omega)] at hg
          simp [List.getD_eq_getElem?_getD, hg]
    · rw [hlt]
      rw [hb] at hw
      simp only [strs, List.length_map, List.length_take, List.length_drop, reachBytes] at hw
      omega
def intsAV (l : List Int) : AV := .fz l.length (l.map intAV)
theorem cells_ints_VSL (w : World) : ∀ l : List Int, VSL noL w (l.map intAV) (l.map fun s => Value.int .i64 s)
  | [] => by simp [VSL]
  | s :: l => by simp only [List.map_cons, VSL, VS, intAV]; exact ⟨trivial, cells_ints_VSL w l⟩
theorem open_intsAV {H : Type} {enc : TypeId × Value → H} {P : Program} {W : World} {t e : TypeId} {v : Value} {d : DataW H} {p : List MemPlace}
    (ht : P.underlying t = some (.slice e)) (he : P.underlying e = some (.int .i64)) (hc : P.cellsOf e = 1) (hv : ∃ a len cap, v = .slice a len cap)
    (h : DataW.Trod enc P W 0 (fun _ => true) true t v d p) :
    ∃ l : List Int, VS noL W (intsAV l) v := by
  obtain ⟨a0, len0, cap0, rfl⟩ := hv
  obtain ⟨fuel, hf⟩ := h
  rcases Go.ChangeShapes.open_ints ht he hc hf with ⟨hcs, hx⟩ | ⟨a, len, cap, ss, hcs, _, hl, hm, hz, hx, hcell, hs⟩
  · refine ⟨[], ?_⟩
    simp [Value.cells] at hcs
    obtain ⟨rfl, rfl, rfl⟩ := hcs
    simp only [intsAV, VS, List.length_nil, List.map_nil]
    exact ⟨none, 0, [], rfl, Nat.le_refl _, .inl rfl, by simp [VSL]⟩
  · simp [Value.cells] at hcs
    obtain ⟨rfl, rfl, rfl⟩ := hcs
    have hlen : ss.length = cap0 := by simpa using hz
    have hlt : (ss.take len0).length = len0 := by rw [List.length_take]; omega
    refine ⟨ss.take len0, ?_⟩
    simp only [intsAV, VS, hlt]
    refine ⟨some a, cap0, (ss.take len0).map fun s => Value.int .i64 s, rfl, hl, .inr ⟨a, rfl, rfl, ?_, ?_⟩, cells_ints_VSL W _⟩
    · intro v hv
      obtain ⟨s, _, rfl⟩ := List.mem_map.1 hv
      rfl
    · intro i v hi
      rw [List.getElem?_map] at hi
      cases hg : (ss.take len0)[i]? with
      | none => rw [hg] at hi; cases hi
      | some s =>
        rw [hg] at hi
        obtain rfl := Option.some.inj hi
        have hi2 : i < (ss.take len0).length := (List.getElem?_eq_some_iff.1 hg).1
        have := hcell i (by omega)
        rw [this]
        rw [List.getElem?_take, if_pos (by omega)] at hg
        simp [List.getD_eq_getElem?_getD, hg]
theorem sizes_le {k : Nat} : ∀ {l : List ByteArray}, (∀ s ∈ l, s.size ≤ k) → (l.map (·.size)).sum ≤ l.length * k
  | [], _ => by simp
  | x :: l, h => by
    have h1 := h x (by simp)
    have h2 := sizes_le (l := l) (fun s hs => h s (List.mem_cons_of_mem _ hs))
    simp only [List.map_cons, List.sum_cons, List.length_cons, Nat.add_mul, Nat.one_mul]
    omega
end Go.Proofs.YtghmlhdlkgjbeaaDoorAv
set_option linter.unusedVariables false
set_option linter.unusedSimpArgs false
namespace Go.Proofs.YtghmlhdlkgjbeaaDoorAv
open Go Go.RowKit
theorem ints_rv (ρ : Rho) (l : List Int) : RV ρ (sqX 1 (fun s => [XI s]) (Sq.ofList l 0)) (intsAV l) := by
  simp only [sqX, RV, toAV, intsAV, Sq.ofList]
  congr 1
  apply List.ext_getElem?
  intro i
  rw [List.getElem?_map]
  rcases Nat.lt_or_ge i l.length with h | h
  · have := vecOf_get (n := l.length) (sz := 1) (g := fun i => toAVL [XI (l.getD i 0)]) (i := i) (o := 0) h (by omega)
    simp only [Nat.mul_one, Nat.add_zero] at this
    rw [this, List.getElem?_eq_getElem h]
    simp [toAVL, toAV, intAV, List.getD_eq_getElem?_getD, List.getElem?_eq_getElem h]
  · rw [List.getElem?_eq_none h, List.getElem?_eq_none (by rw [vecOf_length]; omega)]
    rfl
/-- A law's run, out of its contract. -/
theorem law_J {P : Program} {f : FuncId} {C : CT} (h : CTok P f C) {xs : List XV} {bs : List AV} {cs : List Prop} (hC : C xs = some (cs, XB true)) (hc : ∀ p ∈ cs, p) (hv : RVL (fun _ => none) xs bs) (L : GH) : JF P f bs L (fun v L' => v = boolAV true ∧ L' = L) := by
  obtain ⟨v', h1, h2⟩ := h.2 xs cs _ hC hc _ bs hv
  simp only [RV] at h1
  exact (h2 L).mono fun v L' ⟨e1, e2⟩ => ⟨by rw [e1, h1]; rfl, e2⟩
end Go.Proofs.YtghmlhdlkgjbeaaDoorAv
set_option linter.unusedVariables false
set_option linter.unusedSimpArgs false
namespace Go.Proofs.YtghmlhdlkgjbeaaDoorAv
open Go Go.RowKit Go.ChangeShapes Go.WideShapes
theorem laidVars_at {P : Program} {W : World} {name : String} {d : DataW Unit} : ∀ {laid : List (String × DataW Unit)} {ps : List MemPlace}, DataW.LaidVars P W laid ps → (name, d) ∈ laid →
    ∃ g t cs fuel p, P.globalNamed name = some g ∧ (P.globals[g]?).map (·.type) = some t ∧ W.var? P name = some cs ∧ DataW.trod (fun _ => ()) P W 0 (fun _ => true) false fuel t cs.toList = some (d, p)
  | [], _, _, h => by cases h
  | (n, e) :: r, ps, h, hm => by
    simp only [DataW.LaidVars] at h
    obtain ⟨g, t, cs, fuel, p, q, h1, h2, h3, h4, h5, _⟩ := h
    rcases List.mem_cons.1 hm with hm | hm
    · cases hm
      exact ⟨g, t, cs, fuel, p, h1, h2, h3, h4⟩
    · exact laidVars_at h5 hm
theorem laidMetH_at {P : Program} {W : World} {laid : List (String × DataW Unit)} (h : laidMetH P laid W) {name : String} {d : DataW Unit} (hm : (name, d) ∈ laid) (hn : d.handleName?.isNone = true) :
    ∃ g t cs fuel p, P.globalNamed name = some g ∧ (P.globals[g]?).map (·.type) = some t ∧ W.var? P name = some cs ∧ DataW.trod (fun _ => ()) P W 0 (fun _ => true) false fuel t cs.toList = some (d, p) := by
  unfold laidMetH at h
  split at h
  · obtain ⟨ps, h, _⟩ := h
    exact laidVars_at h hm
  · obtain ⟨⟨ps, h, _⟩, _⟩ := h
    exact laidVars_at h (List.mem_filter.2 ⟨hm, hn⟩)
/-- What a one-celled datum says of the cell. -/
def cellD {H : Type} : Value → DataW H
  | .int k n => .lit (.int k n)
  | .string s => .lit (.string s.data.toList)
  | .bool b => .lit (.bool b)
  | _ => .nil
theorem trod_cell {H : Type} {enc : TypeId × Value → H} {P : Program} {w : World} {base : Nat} {sp : Nat → Bool} {held : Bool} {fuel : Nat} {e : TypeId} {c v : Value} {q : List MemPlace}
    (he : (∃ k, P.underlying e = some (.int k)) ∨ P.underlying e = some .string) (hv : (∃ k n, v = .int k n) ∨ ∃ s, v = .string s)
    (h : DataW.trod enc P w base sp held fuel e [c] = some (cellD v, q)) : c = v := by
  rcases he with ⟨k, he⟩ | he
  · obtain ⟨z, h1, h2, _⟩ := DataW.trod_int he h
    rcases hv with ⟨k', n, rfl⟩ | ⟨s, rfl⟩
    · simp only [cellD, Prod.mk.injEq, DataW.lit.injEq, Lit.int.injEq] at h2
      obtain ⟨⟨rfl, rfl⟩, _⟩ := h2
      simpa using h1
    · simp [cellD] at h2
  · obtain ⟨s, h1, h2, _⟩ := DataW.trod_string he h
    rcases hv with ⟨k', n, rfl⟩ | ⟨s', rfl⟩
    · simp [cellD] at h2
    · simp only [cellD, Prod.mk.injEq, DataW.lit.injEq, Lit.string.injEq] at h2
      obtain ⟨h2, _⟩ := h2
      have : s' = s := by
        cases s; cases s'
        simp only [ByteArray.mk.injEq]
        exact Array.toList_inj.1 h2
      rw [this]
      simpa using h1
theorem cells_of_row {H : Type} {enc : TypeId × Value → H} {P : Program} {w : World} {base : Nat} {sp : Nat → Bool} {held : Bool} {fuel : Nat} {t e : TypeId} {n : Nat} {cs : List Value} {vs : List Value} {p : List MemPlace}
    (ht : P.underlying t = some (.array n e)) (he : (∃ k, P.underlying e = some (.int k)) ∨ P.underlying e = some .string) (hce : P.cellsOf e = 1) (hct : P.cellsOf t = n)
    (hvs : ∀ v ∈ vs, (∃ k n, v = .int k n) ∨ ∃ s, v = .string s)
    (h : DataW.trod enc P w base sp held fuel t cs = some (.agg (vs.map cellD), p)) : cs = vs := by
  cases fuel with
  | zero => simp [DataW.trod] at h
  | succ fuel =>
    simp only [DataW.trod, ht, hce, hct, Nat.mul_one] at h
    split at h
    · rename_i hl
      obtain ⟨xs, hm, hx⟩ := Option.map_eq_some_iff.1 h
      have hxs : xs.map (·.1) = vs.map (cellD (H := H)) := by
        have := congrArg Prod.fst hx
        simpa using this
      have hxl : xs.length = n := by simpa using Lib.mapM_length hm
      have hzl : vs.length = n := by
        have := congrArg List.length hxs
        simp at this
        omega
      apply List.ext_getElem?
      intro i
      by_cases hi : i < n
      · obtain ⟨b, hb, hf⟩ := Lib.mapM_at hm i i (by simp [hi])
        have hc : (cs.drop i).take 1 = [cs[i]'(by omega)] := by
          rw [List.drop_eq_getElem_cons (by omega)]
          rfl
        have hv : vs[i]? = some (vs[i]'(by omega)) := List.getElem?_eq_getElem _
        have hb2 : (xs.map (·.1))[i]? = some b.1 := by simp [hb]
        rw [hxs, List.getElem?_map, hv] at hb2
        simp only [Option.map_some, Option.some.injEq] at hb2
        rw [hc] at hf
        have hbe : b = (cellD (vs[i]'(by omega)), b.2) := by rw [hb2]
        rw [hbe] at hf
        have := trod_cell he (hvs _ (List.getElem_mem _)) hf
        rw [hv, List.getElem?_eq_getElem (by omega), this]
      · rw [List.getElem?_eq_none (by omega), List.getElem?_eq_none (by omega)]
    · cases h
/-- A listed array of one-celled values: what is known of the variable's cells. -/
theorem glb_row {P : Program} {W : World} {laid : List (String × DataW Unit)} (h : laidMetH P laid W) (name : String) (vs : List Value) {g : Nat} {t e : TypeId} {n : Nat}
    (hm : (name, DataW.agg (vs.map cellD)) ∈ laid) (hg : P.globalNamed name = some g) (hty : (P.globals[g]?).map (·.type) = some t)
    (ht : P.underlying t = some (.array n e)) (he : (∃ k, P.underlying e = some (.int k)) ∨ P.underlying e = some .string) (hce : P.cellsOf e = 1) (hct : P.cellsOf t = n) (hvs : ∀ v ∈ vs, (∃ k n, v = .int k n) ∨ ∃ s, v = .string s) (hne : 0 < vs.length) :
    noL g = none ∧ g < W.heap.size ∧ (∀ i v, (vs.map GV.val)[i]? = some v → ∃ x, W.cell? ⟨g, i, none⟩ = some x ∧ v.is x ∧ x.oneCell' = true) ∧ ∃ c e fr, W.heap[g]? = some (.cells c e fr) ∧ c.size = (vs.map GV.val).length := by
  obtain ⟨g', t', cs, fuel, p, hg', ht', hvar, hd⟩ := laidMetH_at h hm rfl
  obtain rfl := Option.some.inj (hg.symm.trans hg')
  obtain rfl := Option.some.inj (hty.symm.trans ht')
  have e := cells_of_row ht he hce hct hvs hd
  have hc : ∀ i, W.cell? ⟨g, i, none⟩ = vs[i]? := fun i => by rw [World.var?_cell hg hvar i, ← e, Array.getElem?_toList]
  refine ⟨rfl, ?_, fun i v hi => ?_, ?_⟩
  · have h0 := hc 0
    rw [List.getElem?_eq_getElem hne] at h0
    refine Nat.lt_of_not_le fun hle => ?_
    unfold World.cell? at h0
    simp only [Array.getElem?_eq_none hle] at h0
    cases h0
  · rw [List.getElem?_map] at hi
    cases hv : vs[i]? with
    | none => rw [hv] at hi; cases hi
    | some x =>
      rw [hv] at hi
      obtain rfl := Option.some.inj hi
      refine ⟨x, (hc i).trans hv, rfl, ?_⟩
      rcases hvs x (List.mem_of_getElem? hv) with ⟨k, n, rfl⟩ | ⟨s, rfl⟩ <;> rfl
  · unfold World.var? at hvar
    rw [hg] at hvar
    simp only [Option.bind_some] at hvar
    split at hvar
    · rename_i c e' fr hh
      obtain rfl := Option.some.inj hvar
      exact ⟨c, e', fr, hh, by rw [List.length_map, ← e, Array.length_toList]⟩
    · cases hvar
/-- A variable that holds some whole number, or an interface's value: by the world's shape. -/
theorem glb_one {P : Program} {W : World} {g : Nat} {t : TypeId} {zero : Array Value} {gv : GV}
    (h : W.ShapedOpen P) (hg : g < P.globals.size) (h0 : ((begin P (fun _ _ => 0) default).world.heap[g]?).bind Obj.row? = some (zero, t)) (hz : zero.size = 1) (hc : ∃ x, W.cell? ⟨g, 0, none⟩ = some x ∧ gv.is x ∧ x.oneCell' = true) :
    noL g = none ∧ g < W.heap.size ∧ (∀ i v, [gv][i]? = some v → ∃ x, W.cell? ⟨g, i, none⟩ = some x ∧ v.is x ∧ x.oneCell' = true) ∧ ∃ c e fr, W.heap[g]? = some (.cells c e fr) ∧ c.size = [gv].length := by
  obtain ⟨cs, hh, hs, _⟩ := h.1 g zero t hg h0
  obtain ⟨x, hx, hi, ho⟩ := hc
  refine ⟨rfl, ?_, fun i v hi' => ?_, cs, t, _, hh, by rw [hs, hz]; rfl⟩
  · refine Nat.lt_of_not_le fun hle => ?_
    rw [Array.getElem?_eq_none hle] at hh
    cases hh
  · cases i with
    | zero =>
      obtain rfl := Option.some.inj hi'
      exact ⟨x, hx, hi, ho⟩
    | succ i => cases hi'
theorem glb_int {P : Program} {W : World} {g : Nat} {t : TypeId} {zero : Array Value} {k : IntKind}
    (h : W.ShapedOpen P) (hg : g < P.globals.size) (h0 : ((begin P (fun _ _ => 0) default).world.heap[g]?).bind Obj.row? = some (zero, t)) (hz : zero.size = 1)
    (hb : P.buildable t = true) (hc : P.cellTypes P.depth t = some [t]) (hu : P.underlying t = some (.int k)) :
    noL g = none ∧ g < W.heap.size ∧ (∀ i v, [GV.int k][i]? = some v → ∃ x, W.cell? ⟨g, i, none⟩ = some x ∧ v.is x ∧ x.oneCell' = true) ∧ ∃ c e fr, W.heap[g]? = some (.cells c e fr) ∧ c.size = [GV.int k].length := by
  obtain ⟨m, hm⟩ := Go.Proofs.cell_of_shapedOpen_int h hg h0 hz hb hc hu
  exact glb_one h hg h0 hz ⟨_, hm, ⟨m, rfl⟩, rfl⟩
/-! The witness's world. -/
mutual
def flatD : DataW Unit → List Value
  | .lit (.int k n) => [.int k n]
  | .lit (.string s) => [.string ⟨s.toArray⟩]
  | .lit (.bool b) => [.bool b]
  | .agg l => flatDs l
  | _ => []
def flatDs : List (DataW Unit) → List Value
  | [] => []
  | d :: l => flatD d ++ flatDs l
end
def layCells (cs : Array Value) : Obj → Obj
  | .cells _ t frozen => .cells cs t frozen
  | o => o
def layVar (P : Program) (w : World) (x : String × DataW Unit) : World :=
  match P.globalNamed x.1 with
  | some g => { w with heap := w.heap.modify g (layCells (flatD x.2).toArray) }
  | none => w
noncomputable def layWorld (P : Program) (os : Os) (laid : List (String × DataW Unit)) : World := laid.foldl (layVar P) (World.holding P os ⟨#[], #[], []⟩)
end Go.Proofs.YtghmlhdlkgjbeaaDoorAv
set_option linter.unusedVariables false
set_option linter.unusedSimpArgs false
namespace Go.Proofs.YtghmlhdlkgjbeaaDoorAv
open Go Go.RowKit Go.ChangeShapes Go.WideShapes
theorem open_u8s {H : Type} {enc : TypeId × Value → H} {P : Program} {W : World} {base : Nat} {sp : Nat → Bool} {held : Bool} {t e : TypeId} {n : Nat} {r : Reach} {b0 : Nat} {v : Value} {d : DataW H} {ps : List MemPlace}
    (ht : P.underlying t = some (.array n e)) (he : P.underlying e = some (.int .u8)) (hc : P.cellsOf e = 1) (hct : P.cellsOf t = n)
    (hval : Value.okWide P W r b0 t v) (hd : DataW.Trod enc P W base sp held t v d ps) :
    ∃ l : List Int, l.length = n ∧ v = .agg (l.map (Value.int .u8)).toArray ∧ (∀ x ∈ l, 0 ≤ x ∧ x ≤ 255) := by
  have hv : ∃ cs : Array Value, v = .agg cs ∧ cs.size = n := by
    simp only [Value.okWide, ht] at hval
    obtain ⟨cs, h1, h2, _⟩ := hval
    exact ⟨cs, h1, by rw [h2, hct]⟩
  obtain ⟨cs, rfl, hn⟩ := hv
  obtain ⟨fuel, hf⟩ := hd
  cases fuel with
  | zero => simp [DataW.trod] at hf
  | succ m =>
    rw [DataW.trod_step] at hf
    unfold DataW.trodStep at hf
    simp only [ht, Value.cells] at hf
    rw [if_pos (by rw [hct]; simpa using hn)] at hf
    simp only [Option.map_eq_some_iff] at hf
    obtain ⟨ys, hy, -⟩ := hf
    have key : ∀ i (hi : i < cs.size), ∃ a, cs[i] = .int .u8 a ∧ 0 ≤ a ∧ a ≤ 255 := fun i hi => by
      obtain ⟨b, _, hb⟩ := Lib.mapM_at hy i i (by rw [List.getElem?_range (by omega)])
      rw [hc, Nat.mul_one] at hb
      have h1 : (cs.toList.drop i).take 1 = [cs[i]] := by
        rw [List.drop_eq_getElem_cons (by simpa using hi)]
        simp
      rw [h1] at hb
      obtain ⟨a, ea, -, wa⟩ := DataW.trod_int he hb
      have ea : cs[i] = .int .u8 a := by simpa using ea
      refine ⟨a, ea, ?_⟩
      simp [Lit.wf, IntKind.min, IntKind.max, IntKind.signed, IntKind.bits] at wa
      omega
    refine ⟨cs.toList.map fun v => match v with | .int _ i => i | _ => 0, by simpa using hn, ?_, ?_⟩
    · congr 1
      apply Array.ext
      · simp
      · intro i h1 h2
        obtain ⟨a, ea, -, -⟩ := key i h1
        simp [ea]
    · intro x hx
      obtain ⟨v, hv, rfl⟩ := List.mem_map.1 hx
      obtain ⟨i, hi, rfl⟩ := List.getElem_of_mem hv
      obtain ⟨a, ea, h1, h2⟩ := key i (by simpa using hi)
      have : cs.toList[i] = .int .u8 a := by simpa using ea
      rw [this]
      exact ⟨h1, h2⟩
/-- A listed variable of an interface's type. -/
theorem glb_laidIfc {P : Program} {W : World} {laid : List (String × DataW Unit)} (hl : laidMetH P laid W) (name : String) {d : DataW Unit} {g : Nat} {t : TypeId} {ms : Array (String × TypeId)} {zero : Array Value} 
    (hm : (name, d) ∈ laid) (hn : d.handleName?.isNone = true) (h : W.ShapedOpen P) (hg : g < P.globals.size) (hgn : P.globalNamed name = some g) (hty : (P.globals[g]?).map (·.type) = some t)
    (h0 : ((begin P (fun _ _ => 0) default).world.heap[g]?).bind Obj.row? = some (zero, t)) (hz : zero.size = 1) (hu : P.underlying t = some (.interface ms)) :
    noL g = none ∧ g < W.heap.size ∧ (∀ i v, [GV.ifc][i]? = some v → ∃ x, W.cell? ⟨g, i, none⟩ = some x ∧ v.is x ∧ x.oneCell' = true) ∧ ∃ c e fr, W.heap[g]? = some (.cells c e fr) ∧ c.size = [GV.ifc].length := by
  obtain ⟨g', t', cs, fuel, p, hg', ht', hvar, hd⟩ := laidMetH_at hl hm hn
  obtain rfl := Option.some.inj (hgn.symm.trans hg')
  obtain rfl := Option.some.inj (hty.symm.trans ht')
  have hc : ∀ i, W.cell? ⟨g, i, none⟩ = cs.toList[i]? := fun i => by rw [World.var?_cell hgn hvar i, Array.getElem?_toList]
  generalize cs.toList = l at hd hc
  refine glb_one h hg h0 hz ?_
  cases fuel with
  | zero => simp [DataW.trod] at hd
  | succ m =>
    rw [DataW.trod_step] at hd
    unfold DataW.trodStep at hd
    simp only [hu] at hd
    cases l with
    | nil => simp at hd
    | cons x l =>
      have hx : x = .nilIface ∨ ∃ u v, x = .iface u v := by
        cases l with
        | cons y l => cases x <;> simp at hd
        | nil =>
          cases x
          case nilIface => exact .inl rfl
          case iface u v => exact .inr ⟨u, v, rfl⟩
          all_goals simp at hd
      refine ⟨x, hc 0, hx, ?_⟩
      rcases hx with rfl | ⟨u, v, rfl⟩ <;> rfl
/-! The witness's world, where listed variables hold pointers to errors' texts. -/
def layIf (P : Program) (u st : TypeId) (w : World) (n : String) (s : List UInt8) : World :=
  match P.globalNamed n with
  | some g => World.alloc { w with heap := w.heap.modify g (layCells #[.iface u (.pointer (some ⟨w.heap.size, 0, none⟩))]) } (.cells #[.string ⟨s.toArray⟩] st)
  | none => w
def layVar2 (P : Program) (u st : TypeId) (w : World) (x : String × DataW Unit) : World :=
  match x.2 with
  | .iface _ (.ptr (.agg [.lit (.string s)])) => layIf P u st w x.1 s
  | _ => layVar P w x
noncomputable def layWorld2 (P : Program) (os : Os) (u st : TypeId) (laid : List (String × DataW Unit)) : World := laid.foldl (layVar2 P u st) (World.holding P os ⟨#[], #[], []⟩)
end Go.Proofs.YtghmlhdlkgjbeaaDoorAv
set_option linter.unusedVariables false
set_option linter.unusedSimpArgs false
set_option maxRecDepth 100000
namespace Go.Proofs.YtghmlhdlkgjbeaaDoorAv
open Go Go.RowKit
theorem ints_cells (k : IntKind) (l : List Int) : ∀ v ∈ l.map (Value.int k), (∃ k n, v = .int k n) ∨ ∃ s, v = .string s := fun v hv => by
  obtain ⟨s, _, rfl⟩ := List.mem_map.1 hv
  exact .inl ⟨k, s, rfl⟩
theorem glb_ok {W : World} (hL : laidMetH Tryd.prog YtghmlhdlkgjbeaaDoor.Rows.addrBackRow.laid W) (hs : W.ShapedOpen Tryd.prog) : Glb noL W := by
  intro g vs hm
  simp only [glbT, List.mem_cons, List.not_mem_nil, or_false, Prod.mk.injEq] at hm
  rcases hm with ⟨rfl, rfl⟩ | ⟨rfl, rfl⟩ | ⟨rfl, rfl⟩ | ⟨rfl, rfl⟩ | ⟨rfl, rfl⟩
  · exact glb_row (t := 108) (e := 5) (n := 64) hL "math/bits.deBruijn64tab" ([0, 1, 56, 2, 57, 49, 28, 3, 61, 58, 42, 50, 38, 29, 17, 4, 62, 47, 59, 36, 45, 43, 51, 22, 53, 39, 33, 30, 24, 18, 12, 5, 63, 55, 48, 27, 60, 41, 37, 16, 46, 35, 44, 21, 52, 32, 23, 11, 54, 26, 40, 15, 34, 20, 31, 10, 25, 14, 19, 9, 13, 8, 7, 6].map (Value.int .u8)) (.tail _ (.head _)) (by kernel_rfl) (by kernel_rfl) Tryd.underlying108 (.inl ⟨_, Tryd.underlying5⟩) (by kernel_rfl) (by kernel_rfl) (ints_cells _ _) (by decide)
  · exact glb_row (t := 89) (e := 54) (n := 20) hL "internal/strconv.uint64pow10" ([1, 10, 100, 1000, 10000, 100000, 1000000, 10000000, 100000000, 1000000000, 10000000000, 100000000000, 1000000000000, 10000000000000, 100000000000000, 1000000000000000, 10000000000000000, 100000000000000000, 1000000000000000000, 10000000000000000000].map (Value.int .u64)) (.tail _ (.tail _ (.head _))) (by kernel_rfl) (by kernel_rfl) Tryd.underlying89 (.inl ⟨_, Tryd.underlying54⟩) (by kernel_rfl) (by kernel_rfl) (ints_cells _ _) (by decide)
  · exact glb_laidIfc (t := 56) (zero := #[.nilIface]) hL "strconv.ErrSyntax" (.tail _ (.tail _ (.tail _ (.tail _ (.tail _ (.head _)))))) rfl hs (of_decide_eq_true (by kernel_rfl)) (by kernel_rfl) (by kernel_rfl) (by kernel_rfl) rfl Tryd.underlying56
  · exact glb_laidIfc (t := 56) (zero := #[.nilIface]) hL "strconv.ErrRange" (.tail _ (.tail _ (.tail _ (.tail _ (.head _))))) rfl hs (of_decide_eq_true (by kernel_rfl)) (by kernel_rfl) (by kernel_rfl) (by kernel_rfl) rfl Tryd.underlying56
  · exact glb_int (zero := #[.int .i64 0]) (t := 3) hs (of_decide_eq_true (by kernel_rfl)) (by kernel_rfl) rfl (by kernel_rfl) (by kernel_rfl) Tryd.underlying3
/-- An address, as known. -/
def adrAV (g : Nat → Int) : AV := toAV (adr g)
def adrV (g : Nat → Int) : Value := .agg #[.int .u8 (g 0), .int .u8 (g 1), .int .u8 (g 2), .int .u8 (g 3), .int .u8 (g 4), .int .u8 (g 5), .int .u8 (g 6), .int .u8 (g 7), .int .u8 (g 8), .int .u8 (g 9), .int .u8 (g 10), .int .u8 (g 11), .int .u8 (g 12), .int .u8 (g 13), .int .u8 (g 14), .int .u8 (g 15)]
theorem adr_vs (L : GH) (w : World) (g : Nat → Int) : VS L w (adrAV g) (adrV g) := by
  unfold adrAV adrV adr
  simp only [toAV, toAVL, VS]
  exact ⟨[.int .u8 (g 0), .int .u8 (g 1), .int .u8 (g 2), .int .u8 (g 3), .int .u8 (g 4), .int .u8 (g 5), .int .u8 (g 6), .int .u8 (g 7), .int .u8 (g 8), .int .u8 (g 9), .int .u8 (g 10), .int .u8 (g 11), .int .u8 (g 12), .int .u8 (g 13), .int .u8 (g 14), .int .u8 (g 15)], rfl, by simp [VSL, VS]⟩
theorem adr_rv (ρ : Rho) (g : Nat → Int) : RV ρ (adr g) (adrAV g) := by
  unfold adrAV adr
  simp only [toAV, toAVL, RV, RVL]
  exact ⟨_, rfl, rfl, rfl, rfl, rfl, rfl, rfl, rfl, rfl, rfl, rfl, rfl, rfl, rfl, rfl, rfl, rfl, trivial⟩
theorem open_adr {H : Type} {enc : TypeId × Value → H} {P : Program} {W : World} {base : Nat} {sp : Nat → Bool} {held : Bool} {t e : TypeId} {r : Reach} {b0 : Nat} {v : Value} {d : DataW H} {ps : List MemPlace}
    (ht : P.underlying t = some (.array 16 e)) (he : P.underlying e = some (.int .u8)) (hc : P.cellsOf e = 1) (hct : P.cellsOf t = 16)
    (hval : Value.okWide P W r b0 t v) (hd : DataW.Trod enc P W base sp held t v d ps) : ∃ g, v = adrV g ∧ b16 g := by
  obtain ⟨l, hl, rfl, hb⟩ := open_u8s ht he hc hct hval hd
  refine ⟨fun i => l.getD i 0, ?_, fun k hk => ?_⟩
  · rcases l with _ | ⟨a0, _ | ⟨a1, _ | ⟨a2, _ | ⟨a3, _ | ⟨a4, _ | ⟨a5, _ | ⟨a6, _ | ⟨a7, _ | ⟨a8, _ | ⟨a9, _ | ⟨a10, _ | ⟨a11, _ | ⟨a12, _ | ⟨a13, _ | ⟨a14, _ | ⟨a15, _ | ⟨a16, l⟩⟩⟩⟩⟩⟩⟩⟩⟩⟩⟩⟩⟩⟩⟩⟩⟩
    case cons.cons.cons.cons.cons.cons.cons.cons.cons.cons.cons.cons.cons.cons.cons.cons.nil => rfl
    all_goals (exfalso; simp at hl; try omega)
  · dsimp only
    rw [List.getD_eq_getElem?_getD, List.getElem?_eq_getElem (by omega)]
    exact hb _ (List.getElem_mem _)
theorem addrBack_J (L : GH) (a : Nat → Int) (s : ByteArray) (ha : b16 a) (hs : s.size ≤ 140737488351232) : JF Tryd.prog 3 [adrAV a, strAV s] L (fun v L' => v = boolAV true ∧ L' = L) := by
  refine law_J back_ok (xs := [adr a, XT s]) (cs := _) rfl ?_ ?_ L
  · intro p hp
    simp only [List.nil_append, List.mem_cons, List.not_mem_nil, or_false] at hp
    rcases hp with rfl
    exact b16_l ha
  · simp only [RVL]
    exact ⟨adr_rv _ a, by simp [RV, strAV], trivial⟩
theorem addrApart_J (L : GH) (a b : Nat → Int) (ha : b16 a) (hb : b16 b) : JF Tryd.prog 6 [adrAV a, adrAV b] L (fun v L' => v = boolAV true ∧ L' = L) := by
  refine law_J apart_ok (xs := [adr a, adr b]) (cs := _) rfl ?_ ?_ L
  · intro p hp
    simp only [List.nil_append, List.mem_cons, List.not_mem_nil, or_false] at hp
    rcases hp with rfl | rfl
    · exact b16_l ha
    · exact b16_l hb
  · simp only [RVL]
    exact ⟨adr_rv _ a, adr_rv _ b, trivial⟩
end Go.Proofs.YtghmlhdlkgjbeaaDoorAv
