/- label.Split, label.Join, label.Count. -/
import Derived.Test.YtghmlhdlkgjbeaaDoorPlB
set_option linter.unusedVariables false
set_option linter.unusedSimpArgs false
set_option maxRecDepth 100000
namespace Go.Proofs.YtghmlhdlkgjbeaaDoorAv
open Go Go.RowKit
/-- Does a label end at place i? -/
def laE (s : ByteArray) (i : Nat) : Prop := (i : Int) = s.size ∨ sbyte s i = 46
instance (s : ByteArray) (i : Nat) : Decidable (laE s i) := inferInstanceAs (Decidable (_ ∨ _))
def laF (s : ByteArray) : Nat → Nat
  | 0 => 0
  | i + 1 => if laE s i then i + 1 else laF s i
def laO (s : ByteArray) : Nat → List ByteArray
  | 0 => []
  | i + 1 => if laE s i then laO s i ++ [s.extract (laF s i) i] else laO s i
structure IL where
  i : Nat
def laI (s : ByteArray) : Inv where
  σ := IL
  S := fun x => ⟨[(0, XT s), (2, Xnil), (3, .sl 0 1 0 (laO s x.i).length), (4, XI (laF s x.i)), (8, XI ((s.size : Int) + 1)), (9, XI x.i)], [(0, .vec 9 true (laO s x.i).length 1 fun j => [XT ((laO s x.i).getD j ⟨#[]⟩)])], 1, false, []⟩
  inv := fun x => x.i ≤ s.size + 1
  μ := fun x => s.size + 1 - x.i
def laEn (s : ByteArray) : Env := { loops := [(0, laI s)], own := [(2, [(3, 9, 1)])], frz := [(10, [3])] }
def laV (s : ByteArray) : Prop :=
  in64 ((↑s.size : Int) + (1 : Int)) ∧ (∃ (x : (laI s).σ), x.i.le (s.size + (1 : Nat)) ∧ true = true ∧ s = s ∧ Xnil = Xnil ∧ XV.sl (0 : Nat) (1 : Nat) (0 : Nat) (0 : Nat) = XV.sl (0 : Nat) (1 : Nat) (0 : Nat) (laO s x.i).length ∧ (0 : Int) = (↑(laF s x.i) : Int) ∧ (↑s.size : Int) + (1 : Int) = (↑s.size : Int) + (1 : Int) ∧ (0 : Int) = (↑x.i : Int) ∧ (((9 : Nat) = (9 : TypeId) ∧ true = true ∧ (1 : Nat) = (1 : Nat)) ∧ (0 : Nat) = (laO s x.i).length ∧ ∀ (j : Nat), j < (0 : Nat) → [] = [XT ((laO s x.i).getD j { data := #[] : ByteArray })]) ∧ True) ∧ ∀ (x : IL), x.i.le (s.size + (1 : Nat)) → (decide ((↑x.i : Int) < (↑s.size : Int) + (1 : Int)) = true → ((!(↑x.i : Int) == (↑s.size : Int)) = true → (0 : Int) ≤ (↑x.i : Int)) ∧ ((!(↑x.i : Int) == (↑s.size : Int)) = true → (↑x.i : Int) < (↑s.size : Int)) ∧ (((↑x.i : Int) == (↑s.size : Int) || sbyte s (↑x.i : Int) == (46 : Int)) = true → (0 : Int) ≤ (↑(laF s x.i) : Int) ∧ (↑(laF s x.i) : Int) ≤ (↑x.i : Int) ∧ (↑x.i : Int) ≤ (↑s.size : Int) ∧ (laO s x.i).length = (laO s x.i).length ∧ ((laO s x.i).length + (1 : Nat)) * (16 : Nat) ≤ (140737488355328 : Nat) ∧ (laO s x.i).length + (1 : Nat) ≤ (140737488355328 : Nat) ∧ in64 ((↑x.i : Int) + (1 : Int)) ∧ in64 ((↑x.i : Int) + (1 : Int)) ∧ ∃ (x' : (laI s).σ), x'.i.le (s.size + (1 : Nat)) ∧ s.size + (1 : Nat) - x'.i < s.size + (1 : Nat) - x.i ∧ true = true ∧ s = s ∧ Xnil = Xnil ∧ XV.sl (0 : Nat) (1 : Nat) (0 : Nat) ((laO s x.i).length + (1 : Nat)) = XV.sl (0 : Nat) (1 : Nat) (0 : Nat) (laO s x'.i).length ∧ (↑x.i : Int) + (1 : Int) = (↑(laF s x'.i) : Int) ∧ (↑s.size : Int) + (1 : Int) = (↑s.size : Int) + (1 : Int) ∧ (↑x.i : Int) + (1 : Int) = (↑x'.i : Int) ∧ (((9 : TypeId) = (9 : TypeId) ∧ true = true ∧ (1 : Nat) = (1 : Nat)) ∧ (laO s x.i).length + (1 : Nat) = (laO s x'.i).length ∧ ∀ (j : Nat), j < (laO s x.i).length + (1 : Nat) → (bif j.blt (laO s x.i).length then [XT ((laO s x.i).getD j { data := #[] : ByteArray })] else [XT (s.extract (↑(laF s x.i) : Int).toNat (↑x.i : Int).toNat)]) = [XT ((laO s x'.i).getD j { data := #[] : ByteArray })]) ∧ True) ∧ (((↑x.i : Int) == (↑s.size : Int) || sbyte s (↑x.i : Int) == (46 : Int)) = false → in64 ((↑x.i : Int) + (1 : Int)) ∧ ∃ (x' : (laI s).σ), x'.i.le (s.size + (1 : Nat)) ∧ s.size + (1 : Nat) - x'.i < s.size + (1 : Nat) - x.i ∧ true = true ∧ s = s ∧ Xnil = Xnil ∧ XV.sl (0 : Nat) (1 : Nat) (0 : Nat) (laO s x.i).length = XV.sl (0 : Nat) (1 : Nat) (0 : Nat) (laO s x'.i).length ∧ (↑(laF s x.i) : Int) = (↑(laF s x'.i) : Int) ∧ (↑s.size : Int) + (1 : Int) = (↑s.size : Int) + (1 : Int) ∧ (↑x.i : Int) + (1 : Int) = (↑x'.i : Int) ∧ (((9 : TypeId) = (9 : TypeId) ∧ true = true ∧ (1 : Nat) = (1 : Nat)) ∧ (laO s x.i).length = (laO s x'.i).length ∧ ∀ (j : Nat), j < (laO s x.i).length → [XT ((laO s x.i).getD j { data := #[] : ByteArray })] = [XT ((laO s x'.i).getD j { data := #[] : ByteArray })]) ∧ True)) ∧ (decide ((↑x.i : Int) < (↑s.size : Int) + (1 : Int)) = false → (laO s x.i).length = (laO s x.i).length ∧ (1 : Nat) = (1 : Nat) ∧ (laO s x.i).length = (laO s (s.size + (1 : Nat))).length ∧ ∀ (j : Nat), j < (laO s x.i).length → [XT ((laO s x.i).getD j { data := #[] : ByteArray })] = [XT ((laO s (s.size + (1 : Nat))).getD j { data := #[] : ByteArray })])
theorem laV_eq (s : ByteArray) : laV s = (funC cx0 Tryd.f18 (mkSc (laEn s) (bodyOf Tryd.f18)) [XT s] (strsL (laO s (s.size + 1)))) := by kernel_rfl
/-- Texts with points between. -/
def ljF (g : Nat → ByteArray) : Nat → ByteArray
  | 0 => ⟨#[]⟩
  | i + 1 => (if 0 < i then ljF g i ++ ⟨#[46]⟩ else ljF g i) ++ g i
def ljI (q : Sq ByteArray) : Inv where
  σ := IL
  S := fun x => ⟨[(2, XT ⟨#[]⟩), (3, XT (ljF q.g x.i)), (6, sqX 1 (fun s => [XT s]) q), (7, XI q.n), (8, XI x.i)], [], 0, false, []⟩
  inv := fun x => x.i ≤ q.n
  μ := fun x => q.n - x.i
def ljE (q : Sq ByteArray) : Env := { loops := [(0, ljI q)] }
def ljV (q : Sq ByteArray) : Prop :=
  (∃ (x : (ljI q).σ), x.i.le q.n ∧ true = true ∧ { data := #[] : ByteArray } = { data := #[] : ByteArray } ∧ { data := #[] : ByteArray } = ljF q.g x.i ∧ ((XV.fz q.n (1 : Nat) fun (i : Nat) => [XT (q.g i)]) = XV.fz q.n (1 : Nat) fun (i : Nat) => [XT (q.g i)]) ∧ (↑q.n : Int) = (↑q.n : Int) ∧ (0 : Int) = (↑x.i : Int) ∧ True) ∧ ∀ (x : IL), x.i.le q.n → (decide ((↑x.i : Int) < (↑q.n : Int)) = true → (0 : Int) ≤ (↑x.i : Int) ∧ (↑x.i : Int) < (↑q.n : Int) ∧ (decide ((↑x.i : Int) > (0 : Int)) = true → (ljF q.g x.i).size + (1 : Nat) ≤ (9223372036854775807 : Nat) ∧ (ljF q.g x.i ++ { data := #[(46 : UInt8)] : ByteArray }).size + (q.g (↑x.i : Int).toNat).size ≤ (9223372036854775807 : Nat) ∧ in64 ((↑x.i : Int) + (1 : Int)) ∧ ∃ (x' : (ljI q).σ), x'.i.le q.n ∧ q.n - x'.i < q.n - x.i ∧ true = true ∧ { data := #[] : ByteArray } = { data := #[] : ByteArray } ∧ ljF q.g x.i ++ { data := #[(46 : UInt8)] : ByteArray } ++ q.g (↑x.i : Int).toNat = ljF q.g x'.i ∧ ((XV.fz q.n (1 : Nat) fun (i : Nat) => [XT (q.g i)]) = XV.fz q.n (1 : Nat) fun (i : Nat) => [XT (q.g i)]) ∧ (↑q.n : Int) = (↑q.n : Int) ∧ (↑x.i : Int) + (1 : Int) = (↑x'.i : Int) ∧ True) ∧ (decide ((↑x.i : Int) > (0 : Int)) = false → (ljF q.g x.i).size + (q.g (↑x.i : Int).toNat).size ≤ (9223372036854775807 : Nat) ∧ in64 ((↑x.i : Int) + (1 : Int)) ∧ ∃ (x' : (ljI q).σ), x'.i.le q.n ∧ q.n - x'.i < q.n - x.i ∧ true = true ∧ { data := #[] : ByteArray } = { data := #[] : ByteArray } ∧ ljF q.g x.i ++ q.g (↑x.i : Int).toNat = ljF q.g x'.i ∧ ((XV.fz q.n (1 : Nat) fun (i : Nat) => [XT (q.g i)]) = XV.fz q.n (1 : Nat) fun (i : Nat) => [XT (q.g i)]) ∧ (↑q.n : Int) = (↑q.n : Int) ∧ (↑x.i : Int) + (1 : Int) = (↑x'.i : Int) ∧ True)) ∧ (decide ((↑x.i : Int) < (↑q.n : Int)) = false → ljF q.g x.i = ljF q.g q.n)
theorem ljV_eq (q : Sq ByteArray) : ljV q = (funC cx0 Tryd.f19 (mkSc (ljE q) (bodyOf Tryd.f19)) [sqX 1 (fun s => [XT s]) q] (XT (ljF q.g q.n))) := by kernel_rfl
theorem laF_le (s : ByteArray) : ∀ i, laF s i ≤ i
  | 0 => Nat.le_refl _
  | i + 1 => by
    have := laF_le s i
    rw [laF]
    split <;> omega
theorem laO_le (s : ByteArray) : ∀ i, (laO s i).length ≤ i
  | 0 => Nat.le_refl _
  | i + 1 => by
    have := laO_le s i
    rw [laO]
    split
    · rw [List.length_append]; show _ + 1 ≤ _; omega
    · omega
theorem split1_snoc (c b : UInt8) : ∀ (l : List UInt8) (A : List (List UInt8)) (x : List UInt8), split1 c l = A ++ [x] → split1 c (l ++ [b]) = if b = c then A ++ [x, []] else A ++ [x ++ [b]]
  | [], A, x, h => by
    have h : [[]] = A ++ [x] := h
    cases A with
    | nil =>
      obtain rfl : [] = x := by simpa using h
      show (if b = c then [] :: split1 c [] else match split1 c [] with | h :: t => (b :: h) :: t | [] => [[b]]) = _
      split <;> rfl
    | cons a A =>
      have := congrArg List.length h
      simp at this
  | a :: l, A, x, h => by
    rw [List.cons_append]
    unfold split1 at h ⊢
    by_cases e : a = c
    · rw [if_pos e] at h ⊢
      cases A with
      | nil =>
        simp at h
        exact absurd h.2 (split1_ne c l)
      | cons a' A =>
        rw [List.cons_append, List.cons.injEq] at h
        obtain ⟨rfl, h⟩ := h
        rw [split1_snoc c b l A x h]
        split <;> rfl
    · rw [if_neg e] at h ⊢
      cases hl : split1 c l with
      | nil => exact absurd hl (split1_ne c l)
      | cons y t =>
        rw [hl] at h
        have h : (a :: y) :: t = A ++ [x] := h
        cases A with
        | nil =>
          simp at h
          obtain ⟨rfl, rfl⟩ := h
          rw [split1_snoc c b l [] y hl]
          by_cases hb : b = c
          · rw [if_pos hb, if_pos hb]; rfl
          · rw [if_neg hb, if_neg hb]; rfl
        | cons a' A =>
          rw [List.cons_append, List.cons.injEq] at h
          obtain ⟨rfl, rfl⟩ := h
          rw [split1_snoc c b l (y :: A) x hl]
          by_cases hb : b = c
          · rw [if_pos hb, if_pos hb]; rfl
          · rw [if_neg hb, if_neg hb]; rfl
theorem sbyte_at (s : ByteArray) (i : Nat) : sbyte s i = ((s.data.toList.getD i 0).toNat : Int) := rfl
theorem laE_lt (s : ByteArray) (i : Nat) (h : i < s.size) : laE s i ↔ s.data.toList.getD i 0 = 46 := by
  unfold laE
  rw [sbyte_at]
  constructor
  · rintro (h1 | h1)
    · omega
    · apply UInt8.toNat_inj.1
      show _ = 46
      omega
  · intro h1
    right
    rw [h1]
    rfl
theorem ext_data (s : ByteArray) (i j : Nat) (h1 : i ≤ j) (h2 : j ≤ s.size) : (s.extract i j).data.toList = (s.data.toList.drop i).take (j - i) := by
  rw [ByteArray.data_extract, Array.toList_extract]
theorem la_split (s : ByteArray) : ∀ i, i ≤ s.size → split1 46 (s.data.toList.take i) = ((laO s i).map (·.data.toList)) ++ [(s.data.toList.take i).drop (laF s i)]
  | 0, _ => rfl
  | i + 1, h => by
    have ih := la_split s i (by omega)
    have hl : i < s.data.toList.length := by rw [← size_data]; omega
    have hf := laF_le s i
    rw [take_snoc' _ i 0 hl, split1_snoc 46 _ _ _ _ ih, laO, laF]
    by_cases e : laE s i
    · rw [if_pos e, if_pos e, if_pos ((laE_lt s i (by omega)).1 e), List.map_append, List.append_assoc]
      congr 1
      have e1 : (s.extract (laF s i) i).data.toList = (s.data.toList.take i).drop (laF s i) := by
        rw [ext_data s _ _ hf (by omega), List.drop_take]
      have e2 : (s.data.toList.take i ++ [s.data.toList.getD i 0]).drop (i + 1) = [] := by
        apply List.drop_eq_nil_of_le
        rw [List.length_append, List.length_take, List.length_singleton]
        omega
      rw [List.map_singleton, e1, e2]
      rfl
    · rw [if_neg e, if_neg e, if_neg (fun h1 => e ((laE_lt s i (by omega)).2 h1))]
      congr 2
      rw [List.drop_append_of_le_length (by rw [List.length_take]; omega)]
theorem la_out (s : ByteArray) : laO s (s.size + 1) = splitS s ⟨#[46]⟩ := by
  have h := la_split s s.size (Nat.le_refl _)
  rw [size_data s, List.take_length, ← size_data s] at h
  rw [splitS_one, h, laO, if_pos (.inl rfl), List.map_append, List.map_map]
  have e : (laO s s.size).map (mk8 ∘ (·.data.toList)) = laO s s.size := by
    conv => rhs; rw [← List.map_id (laO s s.size)]
    apply List.map_congr_left
    intro a _
    rfl
  rw [e]
  congr 1
  rw [List.map_singleton]
  congr 1
  have hf := laF_le s s.size
  rw [← data_mk8 (s.extract (laF s s.size) s.size), ext_data s _ _ hf (Nat.le_refl _)]
  congr 1
  rw [List.take_of_length_le (by rw [List.length_drop, ← size_data]; omega)]
theorem la_v (s : ByteArray) (hs : s.size ≤ 1000000000) : laV s := by
  unfold laV
  refine ⟨by unfold in64; omega, ⟨⟨0⟩, Nat.zero_le _, rfl, rfl, rfl, rfl, rfl, rfl, rfl, ⟨⟨rfl, rfl, rfl⟩, rfl, fun j hj => absurd hj (by omega)⟩, trivial⟩, ?_⟩
  rintro ⟨i⟩ hi
  have hi : i ≤ s.size + 1 := hi
  have hf := laF_le s i
  have ho := laO_le s i
  refine ⟨fun h => ?_, fun h => ?_⟩
  · have h : (i : Int) < (s.size : Int) + 1 := of_decide_eq_true h
    refine ⟨fun _ => by dsimp only; omega, fun h2 => ?_, fun h2 => ?_, fun h2 => ?_⟩
    · have h2 : ¬ (i : Int) = (s.size : Int) := fun e => by
        have h2 : (!(i : Int) == (s.size : Int)) = true := h2
        rw [beq_iff_eq.mpr e] at h2
        cases h2
      dsimp only
      omega
    · have h3 : laE s i := by
        have h2 : ((i : Int) == (s.size : Int) || sbyte s (i : Int) == 46) = true := h2
        rw [Bool.or_eq_true, beq_iff_eq, beq_iff_eq] at h2
        exact h2
      have e1 : laF s (i + 1) = i + 1 := by rw [laF, if_pos h3]
      have e2 : laO s (i + 1) = laO s i ++ [s.extract (laF s i) i] := by rw [laO, if_pos h3]
      have e3 : (laO s i).length + 1 = (laO s (i + 1)).length := by rw [e2, List.length_append]; rfl
      refine ⟨by omega, by dsimp only; omega, by dsimp only; omega, rfl, by dsimp only; omega, by dsimp only; omega, by unfold in64; dsimp only; omega, by unfold in64; dsimp only; omega, ⟨i + 1⟩, by show i + 1 ≤ s.size + 1; omega, by show s.size + 1 - (i + 1) < s.size + 1 - i; omega, rfl, rfl, rfl, ?_, ?_, rfl, rfl, ⟨⟨rfl, rfl, rfl⟩, e3, fun j hj => ?_⟩, trivial⟩
      · dsimp only; rw [e3]
      · dsimp only; rw [e1]; rfl
      · dsimp only
        rw [e2]
        exact row_app (laO s i) _ ⟨#[]⟩ (fun x => [XT x]) j hj
    · have h3 : ¬ laE s i := fun e => by
        have h2 : ((i : Int) == (s.size : Int) || sbyte s (i : Int) == 46) = false := h2
        unfold laE at e
        rw [← beq_iff_eq (a := (i : Int)), ← beq_iff_eq (a := sbyte s i), ← Bool.or_eq_true, h2] at e
        cases e
      have e1 : laF s (i + 1) = laF s i := by rw [laF, if_neg h3]
      have e2 : laO s (i + 1) = laO s i := by rw [laO, if_neg h3]
      refine ⟨by unfold in64; dsimp only; omega, ⟨i + 1⟩, by show i + 1 ≤ s.size + 1; omega, by show s.size + 1 - (i + 1) < s.size + 1 - i; omega, rfl, rfl, rfl, ?_, ?_, rfl, rfl, ⟨⟨rfl, rfl, rfl⟩, ?_, fun j hj => ?_⟩, trivial⟩
      · dsimp only; rw [e2]
      · dsimp only; rw [e1]
      · dsimp only; rw [e2]
      · dsimp only; rw [e2]
  · have h : ¬ (i : Int) < (s.size : Int) + 1 := of_decide_eq_false h
    obtain rfl : i = s.size + 1 := by omega
    exact ⟨rfl, rfl, rfl, fun _ _ => rfl⟩
def lspC : CT := C1 dStr (fun s => [s.size ≤ 1000000000]) fun s => strsL (splitS s ⟨#[46]⟩)
theorem lsp_ok : CTok Tryd.prog 18 lspC := C1_ok cx0_ok Tryd.func18 rfl (by decide) dStr_eq.ok (by kernel_rfl) (fun _ => rfl) fun s hc => by
  rw [← la_out s]
  exact exv (laV_eq s) (la_v s (hc _ (.head _)))
theorem ljF_size (g : Nat → ByteArray) (n : Nat) (h : ∀ i, i < n → (g i).size ≤ 1000000) : ∀ i, i ≤ n → (ljF g i).size ≤ 1000001 * i
  | 0, _ => Nat.le_refl _
  | i + 1, hi => by
    have ih := ljF_size g n h i (by omega)
    have hg := h i (by omega)
    rw [ljF, ByteArray.size_append]
    split
    · rw [ByteArray.size_append]
      show _ + 1 + _ ≤ _
      omega
    · omega
theorem lj_v (q : Sq ByteArray) (hn : q.n ≤ 1000) (hq : ∀ i, i < q.n → (q.g i).size ≤ 1000000) : ljV q := by
  unfold ljV
  refine ⟨⟨⟨0⟩, Nat.zero_le _, rfl, rfl, rfl, rfl, rfl, rfl, trivial⟩, ?_⟩
  rintro ⟨i⟩ hi
  have hi : i ≤ q.n := hi
  have hs := ljF_size q.g q.n hq i hi
  refine ⟨fun h => ?_, fun h => ?_⟩
  · have h : (i : Int) < (q.n : Int) := of_decide_eq_true h
    have e : (i : Int).toNat = i := by omega
    have hg := hq i (by omega)
    dsimp only
    rw [e]
    refine ⟨by omega, h, fun h2 => ?_, fun h2 => ?_⟩
    · have h2 : (i : Int) > 0 := of_decide_eq_true h2
      refine ⟨by omega, by rw [ByteArray.size_append]; show _ + 1 + _ ≤ _; omega, by unfold in64; omega, ⟨i + 1⟩, by show i + 1 ≤ q.n; omega, by show q.n - (i + 1) < q.n - i; omega, rfl, rfl, ?_, rfl, rfl, rfl, trivial⟩
      show _ = ljF q.g (i + 1)
      rw [ljF, if_pos (by omega)]
    · have h2 : ¬ (i : Int) > 0 := of_decide_eq_false h2
      refine ⟨by omega, by unfold in64; omega, ⟨i + 1⟩, by show i + 1 ≤ q.n; omega, by show q.n - (i + 1) < q.n - i; omega, rfl, rfl, ?_, rfl, rfl, rfl, trivial⟩
      show _ = ljF q.g (i + 1)
      rw [ljF, if_neg (by omega)]
  · have h : ¬ (i : Int) < (q.n : Int) := of_decide_eq_false h
    obtain rfl : i = q.n := by omega
    rfl
def ljnC : CT := C1 dStrs (fun q => [q.n ≤ 1000, ∀ i, i < q.n → (q.g i).size ≤ 1000000]) fun q => XT (ljF q.g q.n)
theorem ljn_ok : CTok Tryd.prog 19 ljnC := C1_ok cx0_ok Tryd.func19 rfl (by decide) dSl_ok (by kernel_rfl) (fun _ => rfl) fun q hc => exv (ljV_eq q) (lj_v q (hc _ (.head _)) (hc _ (.tail _ (.head _))))
end Go.Proofs.YtghmlhdlkgjbeaaDoorAv
