/- Own texts, put together: PlS; PlB; LaA; NmE; NmF; NmG; PnA; NmBase. -/
import Derived.Test.YthomfpdigmeheaaDoorMgD
import Derived.Lib.Replace
set_option linter.unusedVariables false
set_option linter.unusedSimpArgs false
namespace Go.Proofs.YthomfpdigmeheaaDoorAv
open Go
theorem index1_eq (c : UInt8) (l : List UInt8) : Lib.index (c :: l) [c] = 0 := by
  unfold Lib.index
  rw [if_pos (by simp [List.isPrefixOf])]
theorem index1_ne {b c : UInt8} (h : b ≠ c) (l : List UInt8) : Lib.index (b :: l) [c] = if Lib.index l [c] = -1 then -1 else Lib.index l [c] + 1 := by
  conv => lhs; unfold Lib.index
  rw [if_neg (by simp [List.isPrefixOf]; exact fun h' => h h'.symm)]
  simp
theorem index1_nil (c : UInt8) : Lib.index [] [c] = -1 := rfl
/-- What is ahead of the first such sign, and what behind it. -/
def cut1 (c : UInt8) : List UInt8 → List UInt8 × List UInt8 × Bool
  | [] => ([], [], false)
  | b :: l => if b = c then ([], l, true) else (b :: (cut1 c l).1, (cut1 c l).2.1, (cut1 c l).2.2)
theorem cut_one (c : UInt8) : ∀ l : List UInt8, Lib.cut l [c] = cut1 c l
  | [] => rfl
  | b :: l => by
    have ih := cut_one c l
    unfold Lib.cut at ih ⊢
    unfold cut1
    by_cases h : b = c
    · subst h
      rw [index1_eq, if_pos rfl, if_pos (by decide)]
      simp
    · rw [index1_ne h, if_neg h, ← ih]
      have hge := Lib.index_ge l [c]
      by_cases hi : Lib.index l [c] = -1
      · rw [if_pos hi, hi]; simp
      · rw [if_neg hi]
        have h0 : 0 ≤ Lib.index l [c] := by omega
        rw [if_pos (by omega), if_pos h0]
        obtain ⟨i, hi⟩ : ∃ i : Nat, Lib.index l [c] = i := ⟨(Lib.index l [c]).toNat, by omega⟩
        rw [hi]
        have e : ((i : Int) + 1).toNat = i + 1 := by omega
        simp [e]
/-- Cut at each such sign. -/
def split1 (c : UInt8) : List UInt8 → List (List UInt8)
  | [] => [[]]
  | b :: l => if b = c then [] :: split1 c l else match split1 c l with
    | h :: t => (b :: h) :: t
    | [] => [[b]]
theorem split1_ne (c : UInt8) : ∀ l, split1 c l ≠ []
  | [] => by simp [split1]
  | b :: l => by
    unfold split1
    split
    · simp
    · split <;> simp
theorem split_one (c : UInt8) : ∀ l : List UInt8, Lib.split l [c] = split1 c l
  | [] => rfl
  | b :: l => by
    have ih := split_one c l
    unfold Lib.split at ih ⊢
    unfold split1
    by_cases h : b = c
    · subst h
      rw [Lib.count_cons_eq, Nat.add_comm, if_pos rfl, ← ih]
      unfold Lib.splitK
      rw [index1_eq]
      cases hk : Lib.count l [b] with
      | zero => simp [Lib.splitK]
      | succ k => simp [Lib.splitK]
    · rw [Lib.count_cons_ne _ _ _ h, if_neg h, ← ih]
      cases hk : Lib.count l [c] with
      | zero => simp [Lib.splitK]
      | succ k =>
        obtain ⟨i, hi⟩ := Lib.index_of_count (s := l) (old := [c]) (by omega)
        unfold Lib.splitK
        have h1 : (if (i : Int) = -1 then -1 else (i : Int) + 1) = (i : Int) + 1 := if_neg (by omega)
        have e : ((i : Int) + 1).toNat = i + 1 := by omega
        have h2 : ¬ ((i : Int) + 1 = -1) := by omega
        have h3 : ¬ ((i : Int) = -1) := by omega
        rw [index1_ne h, hi, h1]
        simp [e, h2, h3]
def repl1 (c : UInt8) (new : List UInt8) (l : List UInt8) : List UInt8 := l.flatMap fun b => if b = c then new else [b]
theorem repl1_self (c : UInt8) (l : List UInt8) : repl1 c [c] l = l := by
  unfold repl1
  induction l with
  | nil => rfl
  | cons b l ih =>
    rw [List.flatMap_cons, ih]
    split
    · rename_i h; subst h; rfl
    · rfl
theorem replK_one (c : UInt8) (new : List UInt8) : ∀ l : List UInt8, Lib.replaceK [c] new (Lib.count l [c]) l = repl1 c new l
  | [] => rfl
  | b :: l => by
    have ih := replK_one c new l
    by_cases h : b = c
    · subst h
      rw [Lib.count_cons_eq, Nat.add_comm]
      unfold Lib.replaceK
      rw [index1_eq]
      simp only [repl1, List.flatMap_cons, if_true]
      rw [if_neg (by decide)]
      simp only [repl1] at ih
      simpa using ih
    · rw [Lib.count_cons_ne _ _ _ h]
      simp only [repl1, List.flatMap_cons, if_neg h]
      simp only [repl1] at ih
      rw [← ih]
      cases hk : Lib.count l [c] with
      | zero => simp [Lib.replaceK]
      | succ k =>
        obtain ⟨i, hi⟩ := Lib.index_of_count (s := l) (old := [c]) (by omega)
        unfold Lib.replaceK
        have h1 : (if (i : Int) = -1 then -1 else (i : Int) + 1) = (i : Int) + 1 := if_neg (by omega)
        have e : ((i : Int) + 1).toNat = i + 1 := by omega
        have h2 : ¬ ((i : Int) + 1 = -1) := by omega
        have h3 : ¬ ((i : Int) = -1) := by omega
        rw [index1_ne h, hi, h1]
        simp [e, h2, h3]
theorem repl_one (c : UInt8) (new l : List UInt8) : Lib.replaceAll l [c] new = repl1 c new l := by
  unfold Lib.replaceAll Lib.replace
  split
  · rename_i h
    have : [c] = new := by simpa using h
    rw [← this, repl1_self]
  · have : Lib.replaceNum l [c] (-1) = Lib.count l [c] := by simp [Lib.replaceNum]
    rw [this, replK_one]
end Go.Proofs.YthomfpdigmeheaaDoorAv
set_option linter.unusedVariables false
set_option linter.unusedSimpArgs false
namespace Go.Proofs.YthomfpdigmeheaaDoorAv
open Go Go.RowKit
/-- A text's pieces. -/
def splitS (s sep : ByteArray) : List ByteArray := (Lib.split s.data.toList sep.data.toList).map mk8
theorem splitS_one (s : ByteArray) (c : UInt8) : splitS s ⟨#[c]⟩ = (split1 c s.data.toList).map mk8 := by
  unfold splitS
  rw [show ((⟨#[c]⟩ : ByteArray).data.toList) = [c] from rfl, split_one]
theorem cut1_len (c : UInt8) : ∀ l : List UInt8, (cut1 c l).1.length ≤ l.length ∧ (cut1 c l).2.1.length ≤ l.length
  | [] => by simp [cut1]
  | b :: l => by
    have := cut1_len c l
    unfold cut1
    split <;> simp <;> omega
theorem split1_len (c : UInt8) : ∀ l : List UInt8, (split1 c l).length ≤ l.length + 1
  | [] => by simp [split1]
  | b :: l => by
    have := split1_len c l
    unfold split1
    split
    · simp; omega
    · split
      · rename_i h t heq; rw [heq] at this; simp at this ⊢; omega
      · simp
theorem repl1_len (c : UInt8) (n : List UInt8) (k : Nat) (hn : n.length ≤ k) (hk : 1 ≤ k) : ∀ l : List UInt8, (repl1 c n l).length ≤ k * l.length
  | [] => by simp [repl1]
  | b :: l => by
    have := repl1_len c n k hn hk l
    unfold repl1 at this ⊢
    rw [List.flatMap_cons, List.length_append, List.length_cons, Nat.mul_add, Nat.mul_one]
    split
    · omega
    · rw [List.length_singleton]; omega
theorem splitS_len (s : ByteArray) (c : UInt8) : (splitS s ⟨#[c]⟩).length ≤ s.size + 1 := by
  rw [splitS_one, List.length_map, size_data s]; exact split1_len c _
theorem row_app {α : Type} (l : List α) (x d : α) (e : α → List XV) (j : Nat) (h : j < l.length + 1) : (bif j.blt l.length then e (l.getD j d) else e x) = e ((l ++ [x]).getD j d) := by
  rw [bltN]
  by_cases hj : j < l.length
  · rw [decide_eq_true hj, cond_true, List.getD_eq_getElem?_getD, List.getD_eq_getElem?_getD, List.getElem?_append_left hj]
  · have : j = l.length := by omega
    rw [decide_eq_false hj, cond_false, this, List.getD_eq_getElem?_getD, List.getElem?_append_right (Nat.le_refl _)]
    simp
theorem row_app2 {α : Type} (l : List α) (x d : α) (j : Nat) (h : j < l.length + 1) : (bif j.blt l.length then l.getD j d else x) = (l ++ [x]).getD j d := by
  rw [bltN]
  by_cases hj : j < l.length
  · rw [decide_eq_true hj, cond_true, List.getD_eq_getElem?_getD, List.getD_eq_getElem?_getD, List.getElem?_append_left hj]
  · have : j = l.length := by omega
    rw [decide_eq_false hj, cond_false, this, List.getD_eq_getElem?_getD, List.getElem?_append_right (Nat.le_refl _)]
    simp
theorem take_snoc' {α : Type} (l : List α) (i : Nat) (d : α) (h : i < l.length) : l.take (i + 1) = l.take i ++ [l.getD i d] := by
  rw [List.take_succ_eq_append_getElem h, List.getD_eq_getElem?_getD, List.getElem?_eq_getElem h]; rfl
theorem split1_each (c : UInt8) : ∀ l : List UInt8, ∀ x ∈ split1 c l, x.length ≤ l.length
  | [], x, hx => by simp [split1] at hx; simp [hx]
  | b :: l, x, hx => by
    have ih := split1_each c l
    unfold split1 at hx
    split at hx
    · rcases List.mem_cons.1 hx with rfl | hx
      · simp
      · have := ih x hx; simp; omega
    · split at hx
      · rename_i h t heq
        rcases List.mem_cons.1 hx with rfl | hx
        · have := ih h (by rw [heq]; simp); simp; omega
        · have := ih x (by rw [heq]; simp [hx]); simp; omega
      · simp at hx; simp [hx]
end Go.Proofs.YthomfpdigmeheaaDoorAv
set_option linter.unusedVariables false
set_option linter.unusedSimpArgs false
set_option maxRecDepth 100000
namespace Go.Proofs.YthomfpdigmeheaaDoorAv
open Go Go.RowKit
/-- Does a label end at place i? -/
def laE (s : ByteArray) (i : Nat) : Prop := (i : Int) = s.size ∨ sbyte s i = 46
instance (s : ByteArray) (i : Nat) : Decidable (laE s i) := inferInstanceAs (Decidable (_ ∨ _))
def laF (s : ByteArray) : Nat → Nat
  | 0 => 0
  | i + 1 => if laE s i then i + 1 else laF s i
def laO (s : ByteArray) : Nat → List ByteArray
  | 0 => []
  | i + 1 => if laE s i then laO s i ++ [s.extract (laF s i) i] else laO s i
def laI (s : ByteArray) : Inv where
  σ := IL
  S := fun x => ⟨[(0, XT s), (2, Xnil), (3, .sl 0 1 0 (laO s x.i).length), (4, XI (laF s x.i)), (8, XI ((s.size : Int) + 1)), (9, XI x.i)], [(0, .vec 9 true (laO s x.i).length 1 fun j => [XT ((laO s x.i).getD j ⟨#[]⟩)])], 1, false, []⟩
  inv := fun x => x.i ≤ s.size + 1
  μ := fun x => s.size + 1 - x.i
def laEn (s : ByteArray) : Env := { loops := [(0, laI s)], own := [(2, [(3, 9, 1)])], frz := [(10, [3])] }
def laV (s : ByteArray) : Prop :=
  in64 ((↑s.size : Int) + (1 : Int)) ∧ (∃ (x : (laI s).σ), x.i.le (s.size + (1 : Nat)) ∧ true = true ∧ s = s ∧ Xnil = Xnil ∧ XV.sl (0 : Nat) (1 : Nat) (0 : Nat) (0 : Nat) = XV.sl (0 : Nat) (1 : Nat) (0 : Nat) (laO s x.i).length ∧ (0 : Int) = (↑(laF s x.i) : Int) ∧ (↑s.size : Int) + (1 : Int) = (↑s.size : Int) + (1 : Int) ∧ (0 : Int) = (↑x.i : Int) ∧ (((9 : Nat) = (9 : TypeId) ∧ true = true ∧ (1 : Nat) = (1 : Nat)) ∧ (0 : Nat) = (laO s x.i).length ∧ ∀ (j : Nat), j < (0 : Nat) → [] = [XT ((laO s x.i).getD j { data := #[] : ByteArray })]) ∧ True) ∧ ∀ (x : IL), x.i.le (s.size + (1 : Nat)) → (decide ((↑x.i : Int) < (↑s.size : Int) + (1 : Int)) = true → ((!(↑x.i : Int) == (↑s.size : Int)) = true → (0 : Int) ≤ (↑x.i : Int)) ∧ ((!(↑x.i : Int) == (↑s.size : Int)) = true → (↑x.i : Int) < (↑s.size : Int)) ∧ (((↑x.i : Int) == (↑s.size : Int) || sbyte s (↑x.i : Int) == (46 : Int)) = true → (0 : Int) ≤ (↑(laF s x.i) : Int) ∧ (↑(laF s x.i) : Int) ≤ (↑x.i : Int) ∧ (↑x.i : Int) ≤ (↑s.size : Int) ∧ (laO s x.i).length = (laO s x.i).length ∧ ((laO s x.i).length + (1 : Nat)) * (16 : Nat) ≤ (140737488355328 : Nat) ∧ (laO s x.i).length + (1 : Nat) ≤ (140737488355328 : Nat) ∧ in64 ((↑x.i : Int) + (1 : Int)) ∧ in64 ((↑x.i : Int) + (1 : Int)) ∧ ∃ (x' : (laI s).σ), x'.i.le (s.size + (1 : Nat)) ∧ s.size + (1 : Nat) - x'.i < s.size + (1 : Nat) - x.i ∧ true = true ∧ s = s ∧ Xnil = Xnil ∧ XV.sl (0 : Nat) (1 : Nat) (0 : Nat) ((laO s x.i).length + (1 : Nat)) = XV.sl (0 : Nat) (1 : Nat) (0 : Nat) (laO s x'.i).length ∧ (↑x.i : Int) + (1 : Int) = (↑(laF s x'.i) : Int) ∧ (↑s.size : Int) + (1 : Int) = (↑s.size : Int) + (1 : Int) ∧ (↑x.i : Int) + (1 : Int) = (↑x'.i : Int) ∧ (((9 : TypeId) = (9 : TypeId) ∧ true = true ∧ (1 : Nat) = (1 : Nat)) ∧ (laO s x.i).length + (1 : Nat) = (laO s x'.i).length ∧ ∀ (j : Nat), j < (laO s x.i).length + (1 : Nat) → [XT (bif j.blt (laO s x.i).length then (laO s x.i).getD j { data := #[] : ByteArray } else s.extract (↑(laF s x.i) : Int).toNat (↑x.i : Int).toNat)] = [XT ((laO s x'.i).getD j { data := #[] : ByteArray })]) ∧ True) ∧ (((↑x.i : Int) == (↑s.size : Int) || sbyte s (↑x.i : Int) == (46 : Int)) = false → in64 ((↑x.i : Int) + (1 : Int)) ∧ ∃ (x' : (laI s).σ), x'.i.le (s.size + (1 : Nat)) ∧ s.size + (1 : Nat) - x'.i < s.size + (1 : Nat) - x.i ∧ true = true ∧ s = s ∧ Xnil = Xnil ∧ XV.sl (0 : Nat) (1 : Nat) (0 : Nat) (laO s x.i).length = XV.sl (0 : Nat) (1 : Nat) (0 : Nat) (laO s x'.i).length ∧ (↑(laF s x.i) : Int) = (↑(laF s x'.i) : Int) ∧ (↑s.size : Int) + (1 : Int) = (↑s.size : Int) + (1 : Int) ∧ (↑x.i : Int) + (1 : Int) = (↑x'.i : Int) ∧ (((9 : TypeId) = (9 : TypeId) ∧ true = true ∧ (1 : Nat) = (1 : Nat)) ∧ (laO s x.i).length = (laO s x'.i).length ∧ ∀ (j : Nat), j < (laO s x.i).length → [XT ((laO s x.i).getD j { data := #[] : ByteArray })] = [XT ((laO s x'.i).getD j { data := #[] : ByteArray })]) ∧ True)) ∧ (decide ((↑x.i : Int) < (↑s.size : Int) + (1 : Int)) = false → (laO s x.i).length = (laO s x.i).length ∧ (1 : Nat) = (1 : Nat) ∧ (laO s x.i).length = (laO s (s.size + (1 : Nat))).length ∧ ∀ (j : Nat), j < (laO s x.i).length → [XT ((laO s x.i).getD j { data := #[] : ByteArray })] = [XT ((laO s (s.size + (1 : Nat))).getD j { data := #[] : ByteArray })])
theorem laV_eq (s : ByteArray) : laV s = (funC cx0 Tryd.f18 (mkSc (laEn s) (bodyOf Tryd.f18)) [XT s] (strsL (laO s (s.size + 1)))) := by kernel_rfl
/-- Texts with points between. -/
def ljF (g : Nat → ByteArray) : Nat → ByteArray
  | 0 => ⟨#[]⟩
  | i + 1 => (if 0 < i then ljF g i ++ ⟨#[46]⟩ else ljF g i) ++ g i
def ljI (q : Sq ByteArray) : Inv where
  σ := IL
  S := fun x => ⟨[(2, XT ⟨#[]⟩), (3, XT (ljF q.g x.i)), (6, sqX 1 (fun s => [XT s]) q), (7, XI q.n), (8, XI x.i)], [], 0, false, []⟩
  inv := fun x => x.i ≤ q.n
  μ := fun x => q.n - x.i
def ljE (q : Sq ByteArray) : Env := { loops := [(0, ljI q)] }
def ljV (q : Sq ByteArray) : Prop :=
  (∃ (x : (ljI q).σ), x.i.le q.n ∧ true = true ∧ { data := #[] : ByteArray } = { data := #[] : ByteArray } ∧ { data := #[] : ByteArray } = ljF q.g x.i ∧ ((XV.fz q.n (1 : Nat) fun (i : Nat) => [XT (q.g i)]) = XV.fz q.n (1 : Nat) fun (i : Nat) => [XT (q.g i)]) ∧ (↑q.n : Int) = (↑q.n : Int) ∧ (0 : Int) = (↑x.i : Int) ∧ True) ∧ ∀ (x : IL), x.i.le q.n → (decide ((↑x.i : Int) < (↑q.n : Int)) = true → (0 : Int) ≤ (↑x.i : Int) ∧ (↑x.i : Int) < (↑q.n : Int) ∧ (decide ((↑x.i : Int) > (0 : Int)) = true → (ljF q.g x.i).size + (1 : Nat) ≤ (9223372036854775807 : Nat) ∧ (ljF q.g x.i ++ { data := #[(46 : UInt8)] : ByteArray }).size + (q.g (↑x.i : Int).toNat).size ≤ (9223372036854775807 : Nat) ∧ in64 ((↑x.i : Int) + (1 : Int)) ∧ ∃ (x' : (ljI q).σ), x'.i.le q.n ∧ q.n - x'.i < q.n - x.i ∧ true = true ∧ { data := #[] : ByteArray } = { data := #[] : ByteArray } ∧ ljF q.g x.i ++ { data := #[(46 : UInt8)] : ByteArray } ++ q.g (↑x.i : Int).toNat = ljF q.g x'.i ∧ ((XV.fz q.n (1 : Nat) fun (i : Nat) => [XT (q.g i)]) = XV.fz q.n (1 : Nat) fun (i : Nat) => [XT (q.g i)]) ∧ (↑q.n : Int) = (↑q.n : Int) ∧ (↑x.i : Int) + (1 : Int) = (↑x'.i : Int) ∧ True) ∧ (decide ((↑x.i : Int) > (0 : Int)) = false → (ljF q.g x.i).size + (q.g (↑x.i : Int).toNat).size ≤ (9223372036854775807 : Nat) ∧ in64 ((↑x.i : Int) + (1 : Int)) ∧ ∃ (x' : (ljI q).σ), x'.i.le q.n ∧ q.n - x'.i < q.n - x.i ∧ true = true ∧ { data := #[] : ByteArray } = { data := #[] : ByteArray } ∧ ljF q.g x.i ++ q.g (↑x.i : Int).toNat = ljF q.g x'.i ∧ ((XV.fz q.n (1 : Nat) fun (i : Nat) => [XT (q.g i)]) = XV.fz q.n (1 : Nat) fun (i : Nat) => [XT (q.g i)]) ∧ (↑q.n : Int) = (↑q.n : Int) ∧ (↑x.i : Int) + (1 : Int) = (↑x'.i : Int) ∧ True)) ∧ (decide ((↑x.i : Int) < (↑q.n : Int)) = false → ljF q.g x.i = ljF q.g q.n)
theorem ljV_eq (q : Sq ByteArray) : ljV q = (funC cx0 Tryd.f19 (mkSc (ljE q) (bodyOf Tryd.f19)) [sqX 1 (fun s => [XT s]) q] (XT (ljF q.g q.n))) := by kernel_rfl
theorem laF_le (s : ByteArray) : ∀ i, laF s i ≤ i
  | 0 => Nat.le_refl _
  | i + 1 => by
    have := laF_le s i
    rw [laF]
    split <;> omega
theorem laO_le (s : ByteArray) : ∀ i, (laO s i).length ≤ i
  | 0 => Nat.le_refl _
  | i + 1 => by
    have := laO_le s i
    rw [laO]
    split
    · rw [List.length_append]; show _ + 1 ≤ _; omega
    · omega
theorem split1_snoc (c b : UInt8) : ∀ (l : List UInt8) (A : List (List UInt8)) (x : List UInt8), split1 c l = A ++ [x] → split1 c (l ++ [b]) = if b = c then A ++ [x, []] else A ++ [x ++ [b]]
  | [], A, x, h => by
    have h : [[]] = A ++ [x] := h
    cases A with
    | nil =>
      obtain rfl : [] = x := by simpa using h
      show (if b = c then [] :: split1 c [] else match split1 c [] with | h :: t => (b :: h) :: t | [] => [[b]]) = _
      split <;> rfl
    | cons a A =>
      have := congrArg List.length h
      simp at this
  | a :: l, A, x, h => by
    rw [List.cons_append]
    unfold split1 at h ⊢
    by_cases e : a = c
    · rw [if_pos e] at h ⊢
      cases A with
      | nil =>
        simp at h
        exact absurd h.2 (split1_ne c l)
      | cons a' A =>
        rw [List.cons_append, List.cons.injEq] at h
        obtain ⟨rfl, h⟩ := h
        rw [split1_snoc c b l A x h]
        split <;> rfl
    · rw [if_neg e] at h ⊢
      cases hl : split1 c l with
      | nil => exact absurd hl (split1_ne c l)
      | cons y t =>
        rw [hl] at h
        have h : (a :: y) :: t = A ++ [x] := h
        cases A with
        | nil =>
          simp at h
          obtain ⟨rfl, rfl⟩ := h
          rw [split1_snoc c b l [] y hl]
          by_cases hb : b = c
          · rw [if_pos hb, if_pos hb]; rfl
          · rw [if_neg hb, if_neg hb]; rfl
        | cons a' A =>
          rw [List.cons_append, List.cons.injEq] at h
          obtain ⟨rfl, rfl⟩ := h
          rw [split1_snoc c b l (y :: A) x hl]
          by_cases hb : b = c
          · rw [if_pos hb, if_pos hb]; rfl
          · rw [if_neg hb, if_neg hb]; rfl
theorem sbyte_at (s : ByteArray) (i : Nat) : sbyte s i = ((s.data.toList.getD i 0).toNat : Int) := rfl
theorem laE_lt (s : ByteArray) (i : Nat) (h : i < s.size) : laE s i ↔ s.data.toList.getD i 0 = 46 := by
  unfold laE
  rw [sbyte_at]
  constructor
  · rintro (h1 | h1)
    · omega
    · apply UInt8.toNat_inj.1
      show _ = 46
      omega
  · intro h1
    right
    rw [h1]
    rfl
theorem ext_data (s : ByteArray) (i j : Nat) (h1 : i ≤ j) (h2 : j ≤ s.size) : (s.extract i j).data.toList = (s.data.toList.drop i).take (j - i) := by
  rw [ByteArray.data_extract, Array.toList_extract]
theorem la_split (s : ByteArray) : ∀ i, i ≤ s.size → split1 46 (s.data.toList.take i) = ((laO s i).map (·.data.toList)) ++ [(s.data.toList.take i).drop (laF s i)]
  | 0, _ => rfl
  | i + 1, h => by
    have ih := la_split s i (by omega)
    have hl : i < s.data.toList.length := by rw [← size_data]; omega
    have hf := laF_le s i
    rw [take_snoc' _ i 0 hl, split1_snoc 46 _ _ _ _ ih, laO, laF]
    by_cases e : laE s i
    · rw [if_pos e, if_pos e, if_pos ((laE_lt s i (by omega)).1 e), List.map_append, List.append_assoc]
      congr 1
      have e1 : (s.extract (laF s i) i).data.toList = (s.data.toList.take i).drop (laF s i) := by
        rw [ext_data s _ _ hf (by omega), List.drop_take]
      have e2 : (s.data.toList.take i ++ [s.data.toList.getD i 0]).drop (i + 1) = [] := by
        apply List.drop_eq_nil_of_le
        rw [List.length_append, List.length_take, List.length_singleton]
        omega
      rw [List.map_singleton, e1, e2]
      rfl
    · rw [if_neg e, if_neg e, if_neg (fun h1 => e ((laE_lt s i (by omega)).2 h1))]
      congr 2
      rw [List.drop_append_of_le_length (by rw [List.length_take]; omega)]
theorem la_out (s : ByteArray) : laO s (s.size + 1) = splitS s ⟨#[46]⟩ := by
  have h := la_split s s.size (Nat.le_refl _)
  rw [size_data s, List.take_length, ← size_data s] at h
  rw [splitS_one, h, laO, if_pos (.inl rfl), List.map_append, List.map_map]
  have e : (laO s s.size).map (mk8 ∘ (·.data.toList)) = laO s s.size := by
    conv => rhs; rw [← List.map_id (laO s s.size)]
    apply List.map_congr_left
    intro a _
    rfl
  rw [e]
  congr 1
  rw [List.map_singleton]
  congr 1
  have hf := laF_le s s.size
  rw [← data_mk8 (s.extract (laF s s.size) s.size), ext_data s _ _ hf (Nat.le_refl _)]
  congr 1
  rw [List.take_of_length_le (by rw [List.length_drop, ← size_data]; omega)]
theorem la_v (s : ByteArray) (hs : s.size ≤ 1000000000) : laV s := by
  unfold laV
  refine ⟨by unfold in64; omega, ⟨⟨0⟩, Nat.zero_le _, rfl, rfl, rfl, rfl, rfl, rfl, rfl, ⟨⟨rfl, rfl, rfl⟩, rfl, fun j hj => absurd hj (by omega)⟩, trivial⟩, ?_⟩
  rintro ⟨i⟩ hi
  have hi : i ≤ s.size + 1 := hi
  have hf := laF_le s i
  have ho := laO_le s i
  refine ⟨fun h => ?_, fun h => ?_⟩
  · have h : (i : Int) < (s.size : Int) + 1 := of_decide_eq_true h
    refine ⟨fun _ => by dsimp only; omega, fun h2 => ?_, fun h2 => ?_, fun h2 => ?_⟩
    · have h2 : ¬ (i : Int) = (s.size : Int) := fun e => by
        have h2 : (!(i : Int) == (s.size : Int)) = true := h2
        rw [beq_iff_eq.mpr e] at h2
        cases h2
      dsimp only
      omega
    · have h3 : laE s i := by
        have h2 : ((i : Int) == (s.size : Int) || sbyte s (i : Int) == 46) = true := h2
        rw [Bool.or_eq_true, beq_iff_eq, beq_iff_eq] at h2
        exact h2
      have e1 : laF s (i + 1) = i + 1 := by rw [laF, if_pos h3]
      have e2 : laO s (i + 1) = laO s i ++ [s.extract (laF s i) i] := by rw [laO, if_pos h3]
      have e3 : (laO s i).length + 1 = (laO s (i + 1)).length := by rw [e2, List.length_append]; rfl
      refine ⟨by omega, by dsimp only; omega, by dsimp only; omega, rfl, by dsimp only; omega, by dsimp only; omega, by unfold in64; dsimp only; omega, by unfold in64; dsimp only; omega, ⟨i + 1⟩, by show i + 1 ≤ s.size + 1; omega, by show s.size + 1 - (i + 1) < s.size + 1 - i; omega, rfl, rfl, rfl, ?_, ?_, rfl, rfl, ⟨⟨rfl, rfl, rfl⟩, e3, fun j hj => ?_⟩, trivial⟩
      · dsimp only; rw [e3]
      · dsimp only; rw [e1]; rfl
      · dsimp only
        rw [e2]
        exact congrArg (fun x => [XT x]) (row_app2 (laO s i) _ ⟨#[]⟩ j hj)
    · have h3 : ¬ laE s i := fun e => by
        have h2 : ((i : Int) == (s.size : Int) || sbyte s (i : Int) == 46) = false := h2
        unfold laE at e
        rw [← beq_iff_eq (a := (i : Int)), ← beq_iff_eq (a := sbyte s i), ← Bool.or_eq_true, h2] at e
        cases e
      have e1 : laF s (i + 1) = laF s i := by rw [laF, if_neg h3]
      have e2 : laO s (i + 1) = laO s i := by rw [laO, if_neg h3]
      refine ⟨by unfold in64; dsimp only; omega, ⟨i + 1⟩, by show i + 1 ≤ s.size + 1; omega, by show s.size + 1 - (i + 1) < s.size + 1 - i; omega, rfl, rfl, rfl, ?_, ?_, rfl, rfl, ⟨⟨rfl, rfl, rfl⟩, ?_, fun j hj => ?_⟩, trivial⟩
      · dsimp only; rw [e2]
      · dsimp only; rw [e1]
      · dsimp only; rw [e2]
      · dsimp only; rw [e2]
  · have h : ¬ (i : Int) < (s.size : Int) + 1 := of_decide_eq_false h
    obtain rfl : i = s.size + 1 := by omega
    exact ⟨rfl, rfl, rfl, fun _ _ => rfl⟩
def lspC : CT := C1 dStr (fun s => [s.size ≤ 1000000000]) fun s => strsL (splitS s ⟨#[46]⟩)
theorem lsp_ok : CTok Tryd.prog 18 lspC := C1_ok cx0_ok Tryd.func18 rfl (by decide) dStr_eq.ok (by kernel_rfl) (fun _ => rfl) fun s hc => by
  rw [← la_out s]
  exact exv (laV_eq s) (la_v s (hc _ (.head _)))
theorem ljF_size (g : Nat → ByteArray) (n : Nat) (h : ∀ i, i < n → (g i).size ≤ 1000000) : ∀ i, i ≤ n → (ljF g i).size ≤ 1000001 * i
  | 0, _ => Nat.le_refl _
  | i + 1, hi => by
    have ih := ljF_size g n h i (by omega)
    have hg := h i (by omega)
    rw [ljF, ByteArray.size_append]
    split
    · rw [ByteArray.size_append]
      show _ + 1 + _ ≤ _
      omega
    · omega
theorem lj_v (q : Sq ByteArray) (hn : q.n ≤ 3000) (hq : ∀ i, i < q.n → (q.g i).size ≤ 1000000) : ljV q := by
  unfold ljV
  refine ⟨⟨⟨0⟩, Nat.zero_le _, rfl, rfl, rfl, rfl, rfl, rfl, trivial⟩, ?_⟩
  rintro ⟨i⟩ hi
  have hi : i ≤ q.n := hi
  have hs := ljF_size q.g q.n hq i hi
  refine ⟨fun h => ?_, fun h => ?_⟩
  · have h : (i : Int) < (q.n : Int) := of_decide_eq_true h
    have e : (i : Int).toNat = i := by omega
    have hg := hq i (by omega)
    dsimp only
    rw [e]
    refine ⟨by omega, h, fun h2 => ?_, fun h2 => ?_⟩
    · have h2 : (i : Int) > 0 := of_decide_eq_true h2
      refine ⟨by omega, by rw [ByteArray.size_append]; show _ + 1 + _ ≤ _; omega, by unfold in64; omega, ⟨i + 1⟩, by show i + 1 ≤ q.n; omega, by show q.n - (i + 1) < q.n - i; omega, rfl, rfl, ?_, rfl, rfl, rfl, trivial⟩
      show _ = ljF q.g (i + 1)
      rw [ljF, if_pos (by omega)]
    · have h2 : ¬ (i : Int) > 0 := of_decide_eq_false h2
      refine ⟨by omega, by unfold in64; omega, ⟨i + 1⟩, by show i + 1 ≤ q.n; omega, by show q.n - (i + 1) < q.n - i; omega, rfl, rfl, ?_, rfl, rfl, rfl, trivial⟩
      show _ = ljF q.g (i + 1)
      rw [ljF, if_neg (by omega)]
  · have h : ¬ (i : Int) < (q.n : Int) := of_decide_eq_false h
    obtain rfl : i = q.n := by omega
    rfl
def ljnC : CT := C1 dStrs (fun q => [q.n ≤ 3000, ∀ i, i < q.n → (q.g i).size ≤ 1000000]) fun q => XT (ljF q.g q.n)
theorem ljn_ok : CTok Tryd.prog 19 ljnC := C1_ok cx0_ok Tryd.func19 rfl (by decide) dSl_ok (by kernel_rfl) (fun _ => rfl) fun q hc => exv (ljV_eq q) (lj_v q (hc _ (.head _)) (hc _ (.tail _ (.head _))))
end Go.Proofs.YthomfpdigmeheaaDoorAv
set_option linter.unusedVariables false
set_option linter.unusedSimpArgs false
set_option maxRecDepth 100000
namespace Go.Proofs.YthomfpdigmeheaaDoorAv
open Go Go.RowKit
/-- May a rune not stand in a label? -/
def badC (r : Int) : Bool := decide (r ≥ 128) && !good r || decide (r < 128) && !rgt (⟨#[97]⟩ ++ Utf8.encode r ++ ⟨#[97]⟩)
def bdN (o : List Int) : Nat → Bool
  | 0 => false
  | i + 1 => bdN o i || badC (o.getD i 0)
def byN (o : List Int) : Nat → Bool
  | 0 => false
  | i + 1 => byN o i || decide (o.getD i 0 ≥ 128)
def xnT : ByteArray := ⟨#[120, 110, 45, 45]⟩
def uniL (o : List Int) : ByteArray × Int :=
  if bdN o o.length then (⟨#[]⟩, 3)
  else if !byN o o.length || o.getD 0 0 == 45 || o.getD (o.length - 1) 0 == 45 then (⟨#[]⟩, 3)
  else (encB o, 0)
def uniR (s : ByteArray) : ByteArray × Int :=
  if (cutPreB s xnT).2 = false then (s, 0)
  else if (decR (cutPreB s xnT).1).2 ≠ 0 then (⟨#[]⟩, (decR (cutPreB s xnT).1).2)
  else uniL (decR (cutPreB s xnT).1).1
def unI (s : ByteArray) : Inv where
  σ := IL
  S := fun x => ⟨[(0, XT s), (6, fzL (decR (cutPreB s xnT).1).1), (8, XB (byN (decR (cutPreB s xnT).1).1 x.i)), (27, fzL (decR (cutPreB s xnT).1).1), (28, XI (decR (cutPreB s xnT).1).1.length), (29, XI x.i)], [], 0, false, []⟩
  inv := fun x => x.i ≤ (decR (cutPreB s xnT).1).1.length ∧ bdN (decR (cutPreB s xnT).1).1 x.i = false ∧ uniL (decR (cutPreB s xnT).1).1 = uniR s
  μ := fun x => (decR (cutPreB s xnT).1).1.length - x.i
def unE (s : ByteArray) : Env := { loops := [(0, unI s)] }
def cxu : Cx := { cx0 with C := [(34, cutPreC), (35, decC), (26, goodC), (22, rgtC)] }
def uniV (s : ByteArray) : Prop :=
  ((!(cutPreB s { data := #[(120 : UInt8), (110 : UInt8), (45 : UInt8), (45 : UInt8)] : ByteArray }).snd) = true → s = (uniR s).fst ∧ (0 : Int) = (uniR s).snd ∧ True) ∧ ((!(cutPreB s { data := #[(120 : UInt8), (110 : UInt8), (45 : UInt8), (45 : UInt8)] : ByteArray }).snd) = false → (cutPreB s { data := #[(120 : UInt8), (110 : UInt8), (45 : UInt8), (45 : UInt8)] : ByteArray }).fst.size ≤ (1000000 : Nat) ∧ (((decR (cutPreB s { data := #[(120 : UInt8), (110 : UInt8), (45 : UInt8), (45 : UInt8)] : ByteArray }).fst).snd != (0 : Int)) = true → { data := #[] : ByteArray } = (uniR s).fst ∧ (decR (cutPreB s { data := #[(120 : UInt8), (110 : UInt8), (45 : UInt8), (45 : UInt8)] : ByteArray }).fst).snd = (uniR s).snd ∧ True) ∧ (((decR (cutPreB s { data := #[(120 : UInt8), (110 : UInt8), (45 : UInt8), (45 : UInt8)] : ByteArray }).fst).snd != (0 : Int)) = false → (∃ (x : (unI s).σ), (x.i ≤ (decR (cutPreB s { data := #[(120 : UInt8), (110 : UInt8), (45 : UInt8), (45 : UInt8)] : ByteArray }).fst).fst.length ∧ bdN (decR (cutPreB s { data := #[(120 : UInt8), (110 : UInt8), (45 : UInt8), (45 : UInt8)] : ByteArray }).fst).fst x.i = false ∧ uniL (decR (cutPreB s { data := #[(120 : UInt8), (110 : UInt8), (45 : UInt8), (45 : UInt8)] : ByteArray }).fst).fst = uniR s) ∧ true = true ∧ s = s ∧ ((XV.fz (decR (cutPreB s { data := #[(120 : UInt8), (110 : UInt8), (45 : UInt8), (45 : UInt8)] : ByteArray }).fst).fst.length (1 : Nat) fun (j : Nat) => [X32 ((decR (cutPreB s { data := #[(120 : UInt8), (110 : UInt8), (45 : UInt8), (45 : UInt8)] : ByteArray }).fst).fst.getD j (0 : Int))]) = XV.fz (decR (cutPreB s { data := #[(120 : UInt8), (110 : UInt8), (45 : UInt8), (45 : UInt8)] : ByteArray }).fst).fst.length (1 : Nat) fun (j : Nat) => [X32 ((decR (cutPreB s { data := #[(120 : UInt8), (110 : UInt8), (45 : UInt8), (45 : UInt8)] : ByteArray }).fst).fst.getD j (0 : Int))]) ∧ false = byN (decR (cutPreB s { data := #[(120 : UInt8), (110 : UInt8), (45 : UInt8), (45 : UInt8)] : ByteArray }).fst).fst x.i ∧ ((XV.fz (decR (cutPreB s { data := #[(120 : UInt8), (110 : UInt8), (45 : UInt8), (45 : UInt8)] : ByteArray }).fst).fst.length (1 : Nat) fun (j : Nat) => [X32 ((decR (cutPreB s { data := #[(120 : UInt8), (110 : UInt8), (45 : UInt8), (45 : UInt8)] : ByteArray }).fst).fst.getD j (0 : Int))]) = XV.fz (decR (cutPreB s { data := #[(120 : UInt8), (110 : UInt8), (45 : UInt8), (45 : UInt8)] : ByteArray }).fst).fst.length (1 : Nat) fun (j : Nat) => [X32 ((decR (cutPreB s { data := #[(120 : UInt8), (110 : UInt8), (45 : UInt8), (45 : UInt8)] : ByteArray }).fst).fst.getD j (0 : Int))]) ∧ (↑(decR (cutPreB s { data := #[(120 : UInt8), (110 : UInt8), (45 : UInt8), (45 : UInt8)] : ByteArray }).fst).fst.length : Int) = (↑(decR (cutPreB s { data := #[(120 : UInt8), (110 : UInt8), (45 : UInt8), (45 : UInt8)] : ByteArray }).fst).fst.length : Int) ∧ (0 : Int) = (↑x.i : Int) ∧ True) ∧ ∀ (x : IL), x.i ≤ (decR (cutPreB s { data := #[(120 : UInt8), (110 : UInt8), (45 : UInt8), (45 : UInt8)] : ByteArray }).fst).fst.length ∧ bdN (decR (cutPreB s { data := #[(120 : UInt8), (110 : UInt8), (45 : UInt8), (45 : UInt8)] : ByteArray }).fst).fst x.i = false ∧ uniL (decR (cutPreB s { data := #[(120 : UInt8), (110 : UInt8), (45 : UInt8), (45 : UInt8)] : ByteArray }).fst).fst = uniR s → (decide ((↑x.i : Int) < (↑(decR (cutPreB s { data := #[(120 : UInt8), (110 : UInt8), (45 : UInt8), (45 : UInt8)] : ByteArray }).fst).fst.length : Int)) = true → (0 : Int) ≤ (↑x.i : Int) ∧ (↑x.i : Int) < (↑(decR (cutPreB s { data := #[(120 : UInt8), (110 : UInt8), (45 : UInt8), (45 : UInt8)] : ByteArray }).fst).fst.length : Int) ∧ ((!(decide ((decR (cutPreB s { data := #[(120 : UInt8), (110 : UInt8), (45 : UInt8), (45 : UInt8)] : ByteArray }).fst).fst.getD (↑x.i : Int).toNat (0 : Int) ≥ (128 : Int)) && !good ((decR (cutPreB s { data := #[(120 : UInt8), (110 : UInt8), (45 : UInt8), (45 : UInt8)] : ByteArray }).fst).fst.getD (↑x.i : Int).toNat (0 : Int))) && decide ((decR (cutPreB s { data := #[(120 : UInt8), (110 : UInt8), (45 : UInt8), (45 : UInt8)] : ByteArray }).fst).fst.getD (↑x.i : Int).toNat (0 : Int) < (128 : Int))) = true → (1 : Nat) + (Utf8.encode ((decR (cutPreB s { data := #[(120 : UInt8), (110 : UInt8), (45 : UInt8), (45 : UInt8)] : ByteArray }).fst).fst.getD (↑x.i : Int).toNat (0 : Int))).size ≤ (9223372036854775807 : Nat)) ∧ ((!(decide ((decR (cutPreB s { data := #[(120 : UInt8), (110 : UInt8), (45 : UInt8), (45 : UInt8)] : ByteArray }).fst).fst.getD (↑x.i : Int).toNat (0 : Int) ≥ (128 : Int)) && !good ((decR (cutPreB s { data := #[(120 : UInt8), (110 : UInt8), (45 : UInt8), (45 : UInt8)] : ByteArray }).fst).fst.getD (↑x.i : Int).toNat (0 : Int))) && decide ((decR (cutPreB s { data := #[(120 : UInt8), (110 : UInt8), (45 : UInt8), (45 : UInt8)] : ByteArray }).fst).fst.getD (↑x.i : Int).toNat (0 : Int) < (128 : Int))) = true → ({ data := #[(97 : UInt8)] : ByteArray } ++ Utf8.encode ((decR (cutPreB s { data := #[(120 : UInt8), (110 : UInt8), (45 : UInt8), (45 : UInt8)] : ByteArray }).fst).fst.getD (↑x.i : Int).toNat (0 : Int))).size + (1 : Nat) ≤ (9223372036854775807 : Nat)) ∧ ((!(decide ((decR (cutPreB s { data := #[(120 : UInt8), (110 : UInt8), (45 : UInt8), (45 : UInt8)] : ByteArray }).fst).fst.getD (↑x.i : Int).toNat (0 : Int) ≥ (128 : Int)) && !good ((decR (cutPreB s { data := #[(120 : UInt8), (110 : UInt8), (45 : UInt8), (45 : UInt8)] : ByteArray }).fst).fst.getD (↑x.i : Int).toNat (0 : Int))) && decide ((decR (cutPreB s { data := #[(120 : UInt8), (110 : UInt8), (45 : UInt8), (45 : UInt8)] : ByteArray }).fst).fst.getD (↑x.i : Int).toNat (0 : Int) < (128 : Int))) = true → ({ data := #[(97 : UInt8)] : ByteArray } ++ Utf8.encode ((decR (cutPreB s { data := #[(120 : UInt8), (110 : UInt8), (45 : UInt8), (45 : UInt8)] : ByteArray }).fst).fst.getD (↑x.i : Int).toNat (0 : Int)) ++ { data := #[(97 : UInt8)] : ByteArray }).size ≤ (1000000000 : Nat)) ∧ ((decide ((decR (cutPreB s { data := #[(120 : UInt8), (110 : UInt8), (45 : UInt8), (45 : UInt8)] : ByteArray }).fst).fst.getD (↑x.i : Int).toNat (0 : Int) ≥ (128 : Int)) && !good ((decR (cutPreB s { data := #[(120 : UInt8), (110 : UInt8), (45 : UInt8), (45 : UInt8)] : ByteArray }).fst).fst.getD (↑x.i : Int).toNat (0 : Int)) || decide ((decR (cutPreB s { data := #[(120 : UInt8), (110 : UInt8), (45 : UInt8), (45 : UInt8)] : ByteArray }).fst).fst.getD (↑x.i : Int).toNat (0 : Int) < (128 : Int)) && !rgt ({ data := #[(97 : UInt8)] : ByteArray } ++ Utf8.encode ((decR (cutPreB s { data := #[(120 : UInt8), (110 : UInt8), (45 : UInt8), (45 : UInt8)] : ByteArray }).fst).fst.getD (↑x.i : Int).toNat (0 : Int)) ++ { data := #[(97 : UInt8)] : ByteArray })) = true → { data := #[] : ByteArray } = (uniR s).fst ∧ (3 : Int) = (uniR s).snd ∧ True) ∧ ((decide ((decR (cutPreB s { data := #[(120 : UInt8), (110 : UInt8), (45 : UInt8), (45 : UInt8)] : ByteArray }).fst).fst.getD (↑x.i : Int).toNat (0 : Int) ≥ (128 : Int)) && !good ((decR (cutPreB s { data := #[(120 : UInt8), (110 : UInt8), (45 : UInt8), (45 : UInt8)] : ByteArray }).fst).fst.getD (↑x.i : Int).toNat (0 : Int)) || decide ((decR (cutPreB s { data := #[(120 : UInt8), (110 : UInt8), (45 : UInt8), (45 : UInt8)] : ByteArray }).fst).fst.getD (↑x.i : Int).toNat (0 : Int) < (128 : Int)) && !rgt ({ data := #[(97 : UInt8)] : ByteArray } ++ Utf8.encode ((decR (cutPreB s { data := #[(120 : UInt8), (110 : UInt8), (45 : UInt8), (45 : UInt8)] : ByteArray }).fst).fst.getD (↑x.i : Int).toNat (0 : Int)) ++ { data := #[(97 : UInt8)] : ByteArray })) = false → in64 ((↑x.i : Int) + (1 : Int)) ∧ ∃ (x' : (unI s).σ), (x'.i ≤ (decR (cutPreB s { data := #[(120 : UInt8), (110 : UInt8), (45 : UInt8), (45 : UInt8)] : ByteArray }).fst).fst.length ∧ bdN (decR (cutPreB s { data := #[(120 : UInt8), (110 : UInt8), (45 : UInt8), (45 : UInt8)] : ByteArray }).fst).fst x'.i = false ∧ uniL (decR (cutPreB s { data := #[(120 : UInt8), (110 : UInt8), (45 : UInt8), (45 : UInt8)] : ByteArray }).fst).fst = uniR s) ∧ (decR (cutPreB s { data := #[(120 : UInt8), (110 : UInt8), (45 : UInt8), (45 : UInt8)] : ByteArray }).fst).fst.length - x'.i < (decR (cutPreB s { data := #[(120 : UInt8), (110 : UInt8), (45 : UInt8), (45 : UInt8)] : ByteArray }).fst).fst.length - x.i ∧ true = true ∧ s = s ∧ ((XV.fz (decR (cutPreB s { data := #[(120 : UInt8), (110 : UInt8), (45 : UInt8), (45 : UInt8)] : ByteArray }).fst).fst.length (1 : Nat) fun (j : Nat) => [X32 ((decR (cutPreB s { data := #[(120 : UInt8), (110 : UInt8), (45 : UInt8), (45 : UInt8)] : ByteArray }).fst).fst.getD j (0 : Int))]) = XV.fz (decR (cutPreB s { data := #[(120 : UInt8), (110 : UInt8), (45 : UInt8), (45 : UInt8)] : ByteArray }).fst).fst.length (1 : Nat) fun (j : Nat) => [X32 ((decR (cutPreB s { data := #[(120 : UInt8), (110 : UInt8), (45 : UInt8), (45 : UInt8)] : ByteArray }).fst).fst.getD j (0 : Int))]) ∧ (byN (decR (cutPreB s { data := #[(120 : UInt8), (110 : UInt8), (45 : UInt8), (45 : UInt8)] : ByteArray }).fst).fst x.i || decide ((decR (cutPreB s { data := #[(120 : UInt8), (110 : UInt8), (45 : UInt8), (45 : UInt8)] : ByteArray }).fst).fst.getD (↑x.i : Int).toNat (0 : Int) ≥ (128 : Int))) = byN (decR (cutPreB s { data := #[(120 : UInt8), (110 : UInt8), (45 : UInt8), (45 : UInt8)] : ByteArray }).fst).fst x'.i ∧ ((XV.fz (decR (cutPreB s { data := #[(120 : UInt8), (110 : UInt8), (45 : UInt8), (45 : UInt8)] : ByteArray }).fst).fst.length (1 : Nat) fun (j : Nat) => [X32 ((decR (cutPreB s { data := #[(120 : UInt8), (110 : UInt8), (45 : UInt8), (45 : UInt8)] : ByteArray }).fst).fst.getD j (0 : Int))]) = XV.fz (decR (cutPreB s { data := #[(120 : UInt8), (110 : UInt8), (45 : UInt8), (45 : UInt8)] : ByteArray }).fst).fst.length (1 : Nat) fun (j : Nat) => [X32 ((decR (cutPreB s { data := #[(120 : UInt8), (110 : UInt8), (45 : UInt8), (45 : UInt8)] : ByteArray }).fst).fst.getD j (0 : Int))]) ∧ (↑(decR (cutPreB s { data := #[(120 : UInt8), (110 : UInt8), (45 : UInt8), (45 : UInt8)] : ByteArray }).fst).fst.length : Int) = (↑(decR (cutPreB s { data := #[(120 : UInt8), (110 : UInt8), (45 : UInt8), (45 : UInt8)] : ByteArray }).fst).fst.length : Int) ∧ (↑x.i : Int) + (1 : Int) = (↑x'.i : Int) ∧ True)) ∧ (decide ((↑x.i : Int) < (↑(decR (cutPreB s { data := #[(120 : UInt8), (110 : UInt8), (45 : UInt8), (45 : UInt8)] : ByteArray }).fst).fst.length : Int)) = false → ((!!byN (decR (cutPreB s { data := #[(120 : UInt8), (110 : UInt8), (45 : UInt8), (45 : UInt8)] : ByteArray }).fst).fst x.i) = true → (0 : Int) ≤ (0 : Int)) ∧ ((!!byN (decR (cutPreB s { data := #[(120 : UInt8), (110 : UInt8), (45 : UInt8), (45 : UInt8)] : ByteArray }).fst).fst x.i) = true → (0 : Int) < (↑(decR (cutPreB s { data := #[(120 : UInt8), (110 : UInt8), (45 : UInt8), (45 : UInt8)] : ByteArray }).fst).fst.length : Int)) ∧ ((!(!byN (decR (cutPreB s { data := #[(120 : UInt8), (110 : UInt8), (45 : UInt8), (45 : UInt8)] : ByteArray }).fst).fst x.i || (decR (cutPreB s { data := #[(120 : UInt8), (110 : UInt8), (45 : UInt8), (45 : UInt8)] : ByteArray }).fst).fst.getD ((0 : Nat)) (0 : Int) == (45 : Int))) = true → in64 ((↑(decR (cutPreB s { data := #[(120 : UInt8), (110 : UInt8), (45 : UInt8), (45 : UInt8)] : ByteArray }).fst).fst.length : Int) - (1 : Int))) ∧ ((!(!byN (decR (cutPreB s { data := #[(120 : UInt8), (110 : UInt8), (45 : UInt8), (45 : UInt8)] : ByteArray }).fst).fst x.i || (decR (cutPreB s { data := #[(120 : UInt8), (110 : UInt8), (45 : UInt8), (45 : UInt8)] : ByteArray }).fst).fst.getD ((0 : Nat)) (0 : Int) == (45 : Int))) = true → (0 : Int) ≤ (↑(decR (cutPreB s { data := #[(120 : UInt8), (110 : UInt8), (45 : UInt8), (45 : UInt8)] : ByteArray }).fst).fst.length : Int) - (1 : Int)) ∧ ((!(!byN (decR (cutPreB s { data := #[(120 : UInt8), (110 : UInt8), (45 : UInt8), (45 : UInt8)] : ByteArray }).fst).fst x.i || (decR (cutPreB s { data := #[(120 : UInt8), (110 : UInt8), (45 : UInt8), (45 : UInt8)] : ByteArray }).fst).fst.getD ((0 : Nat)) (0 : Int) == (45 : Int))) = true → (↑(decR (cutPreB s { data := #[(120 : UInt8), (110 : UInt8), (45 : UInt8), (45 : UInt8)] : ByteArray }).fst).fst.length : Int) - (1 : Int) < (↑(decR (cutPreB s { data := #[(120 : UInt8), (110 : UInt8), (45 : UInt8), (45 : UInt8)] : ByteArray }).fst).fst.length : Int)) ∧ ((!byN (decR (cutPreB s { data := #[(120 : UInt8), (110 : UInt8), (45 : UInt8), (45 : UInt8)] : ByteArray }).fst).fst x.i || (decR (cutPreB s { data := #[(120 : UInt8), (110 : UInt8), (45 : UInt8), (45 : UInt8)] : ByteArray }).fst).fst.getD ((0 : Nat)) (0 : Int) == (45 : Int) || (decR (cutPreB s { data := #[(120 : UInt8), (110 : UInt8), (45 : UInt8), (45 : UInt8)] : ByteArray }).fst).fst.getD ((↑(decR (cutPreB s { data := #[(120 : UInt8), (110 : UInt8), (45 : UInt8), (45 : UInt8)] : ByteArray }).fst).fst.length : Int) - (1 : Int)).toNat (0 : Int) == (45 : Int)) = true → { data := #[] : ByteArray } = (uniR s).fst ∧ (3 : Int) = (uniR s).snd ∧ True) ∧ ((!byN (decR (cutPreB s { data := #[(120 : UInt8), (110 : UInt8), (45 : UInt8), (45 : UInt8)] : ByteArray }).fst).fst x.i || (decR (cutPreB s { data := #[(120 : UInt8), (110 : UInt8), (45 : UInt8), (45 : UInt8)] : ByteArray }).fst).fst.getD ((0 : Nat)) (0 : Int) == (45 : Int) || (decR (cutPreB s { data := #[(120 : UInt8), (110 : UInt8), (45 : UInt8), (45 : UInt8)] : ByteArray }).fst).fst.getD ((↑(decR (cutPreB s { data := #[(120 : UInt8), (110 : UInt8), (45 : UInt8), (45 : UInt8)] : ByteArray }).fst).fst.length : Int) - (1 : Int)).toNat (0 : Int) == (45 : Int)) = false → (∀ (j : Nat), j < (decR (cutPreB s { data := #[(120 : UInt8), (110 : UInt8), (45 : UInt8), (45 : UInt8)] : ByteArray }).fst).fst.length → [X32 ((decR (cutPreB s { data := #[(120 : UInt8), (110 : UInt8), (45 : UInt8), (45 : UInt8)] : ByteArray }).fst).fst.getD j (0 : Int))] = [X32 (Option.rec (0 : Int) (fun (val : Int) => val) (decR (cutPreB s { data := #[(120 : UInt8), (110 : UInt8), (45 : UInt8), (45 : UInt8)] : ByteArray }).fst).fst[j]?)]) ∧ (encT (decR (cutPreB s { data := #[(120 : UInt8), (110 : UInt8), (45 : UInt8), (45 : UInt8)] : ByteArray }).fst).fst.length fun (j : Nat) => Option.rec (0 : Int) (fun (val : Int) => val) (decR (cutPreB s { data := #[(120 : UInt8), (110 : UInt8), (45 : UInt8), (45 : UInt8)] : ByteArray }).fst).fst[j]?) = (uniR s).fst ∧ (0 : Int) = (uniR s).snd ∧ True))))
theorem uniV_eq (s : ByteArray) : uniV s = (funC cxu Tryd.f24 (mkSc (unE s) (bodyOf Tryd.f24)) [XT s] (.tup [XT (uniR s).1, XI (uniR s).2])) := by kernel_rfl
/-- A text's runes from a place on. -/
def rnG (s : ByteArray) : Nat → Nat → List Int
  | 0, _ => []
  | f + 1, p => if p < s.size then ((Utf8.decode s p).1 : Int) :: rnG s f (p + (Utf8.decode s p).2) else []
def rns (s : ByteArray) : List Int := rnG s s.size 0
def rnK (acc : List Int) (s : ByteArray) (f p : Nat) : List Int := acc ++ rnG s f p
def ascL (l : List Int) : ByteArray × Int :=
  if bdN l l.length then (⟨#[]⟩, 1)
  else if l.getD 0 0 == 45 || l.getD (l.length - 1) 0 == 45 then (⟨#[]⟩, 1)
  else if (encR (fun j => l.getD j 0) l.length).2 ≠ 0 then (⟨#[]⟩, (encR (fun j => l.getD j 0) l.length).2)
  else if (xnT ++ txtO (encR (fun j => l.getD j 0) l.length).1).size > 63 then (⟨#[]⟩, 2)
  else (xnT ++ txtO (encR (fun j => l.getD j 0) l.length).1, 0)
/-- Of small letters. -/
def ascS (s : ByteArray) : ByteArray × Int :=
  if pla s s.size then
    if rgt s = false then (⟨#[]⟩, 1)
    else if hasPreB s xnT then (s, (uniR s).2) else (s, 0)
  else if validB s = false then (⟨#[]⟩, 1)
  else ascL (rns s)
def ascR (s : ByteArray) : ByteArray × Int := ascS (lowT s)
structure AS where
  f : Nat
  p : Nat
  l : List Int
def asI (s : ByteArray) : Inv where
  σ := AS
  S := fun x => ⟨[(0, XT (lowT s)), (6, .sl 0 1 0 x.l.length), (32, .ptr 1 0 0 0)], [(0, rowR x.l), (1, .it (lowT s) x.p)], 2, false, []⟩
  inv := fun x => rnK x.l (lowT s) x.f x.p = rns (lowT s) ∧ bdN x.l x.l.length = false ∧ (lowT s).size ≤ x.p + x.f ∧ x.l.length ≤ x.p ∧ x.l.length + x.f = (lowT s).size ∧ (∀ y ∈ x.l, 0 ≤ y ∧ y ≤ 1114111) ∧ (x.l.length = 0 → x.p = 0) ∧ ascL (rns (lowT s)) = ascR s
  μ := fun x => x.f
def asE (s : ByteArray) : Env := { loops := [(0, asI s)], own := [(12, [(6, 21, 1)])], frz := [(18, [6])] }
def uniC : CT := C1 dStr (fun s => [s.size ≤ 1000000]) fun s => .tup [XT (uniR s).1, XI (uniR s).2]
def cxa : Cx := { cx0 with C := [(20, lowC), (21, plaC), (22, rgtC), (23, hasPreC), (24, uniC), (25, validC), (26, goodC), (27, encC)] }
def ascV (s : ByteArray) : Prop :=
  s.size ≤ (1000000000 : Nat) ∧ (lowT s).size ≤ (1000000000 : Nat) ∧ (pla (lowT s) (lowT s).size = true → (lowT s).size ≤ (1000000000 : Nat) ∧ ((!rgt (lowT s)) = true → { data := #[] : ByteArray } = (ascR s).fst ∧ (1 : Int) = (ascR s).snd ∧ True) ∧ ((!rgt (lowT s)) = false → (hasPreB (lowT s) { data := #[(120 : UInt8), (110 : UInt8), (45 : UInt8), (45 : UInt8)] : ByteArray } = true → (lowT s).size ≤ (1000000 : Nat) ∧ lowT s = (ascR s).fst ∧ (uniR (lowT s)).snd = (ascR s).snd ∧ True) ∧ (hasPreB (lowT s) { data := #[(120 : UInt8), (110 : UInt8), (45 : UInt8), (45 : UInt8)] : ByteArray } = false → lowT s = (ascR s).fst ∧ (0 : Int) = (ascR s).snd ∧ True))) ∧ (pla (lowT s) (lowT s).size = false → (lowT s).size ≤ (1000000000 : Nat) ∧ ((!validB (lowT s)) = true → { data := #[] : ByteArray } = (ascR s).fst ∧ (1 : Int) = (ascR s).snd ∧ True) ∧ ((!validB (lowT s)) = false → (∃ (x : (asI s).σ), (rnK x.l (lowT s) x.f x.p = rns (lowT s) ∧ bdN x.l x.l.length = false ∧ (lowT s).size ≤ x.p + x.f ∧ x.l.length ≤ x.p ∧ x.l.length + x.f = (lowT s).size ∧ (∀ (y : Int), y ∈ x.l → (0 : Int) ≤ y ∧ y ≤ (1114111 : Int)) ∧ (x.l.length = (0 : Nat) → x.p = (0 : Nat)) ∧ ascL (rns (lowT s)) = ascR s) ∧ true = true ∧ lowT s = lowT s ∧ XV.sl (0 : Nat) (1 : Nat) (0 : Nat) (0 : Nat) = XV.sl (0 : Nat) (1 : Nat) (0 : Nat) x.l.length ∧ XV.ptr ((0 : Nat) + (1 : Nat)) (0 : Nat) (0 : Nat) (0 : Nat) = XV.ptr (1 : Nat) (0 : Nat) (0 : Nat) (0 : Nat) ∧ (((21 : Nat) = (21 : TypeId) ∧ true = true ∧ (1 : Nat) = (1 : Nat)) ∧ (0 : Nat) = x.l.length ∧ ∀ (j : Nat), j < (0 : Nat) → [] = [X32 (x.l.getD j (0 : Int))]) ∧ (lowT s = lowT s ∧ (0 : Nat) = x.p) ∧ True) ∧ ∀ (x : AS), rnK x.l (lowT s) x.f x.p = rns (lowT s) ∧ bdN x.l x.l.length = false ∧ (lowT s).size ≤ x.p + x.f ∧ x.l.length ≤ x.p ∧ x.l.length + x.f = (lowT s).size ∧ (∀ (y : Int), y ∈ x.l → (0 : Int) ≤ y ∧ y ≤ (1114111 : Int)) ∧ (x.l.length = (0 : Nat) → x.p = (0 : Nat)) ∧ ascL (rns (lowT s)) = ascR s → (x.p < (lowT s).size → (true = true → ((!(decide ((↑(Utf8.decode (lowT s) x.p).fst : Int) ≥ (128 : Int)) && !good (↑(Utf8.decode (lowT s) x.p).fst : Int)) && decide ((↑(Utf8.decode (lowT s) x.p).fst : Int) < (128 : Int))) = true → (1 : Nat) + (Utf8.encode (↑(Utf8.decode (lowT s) x.p).fst : Int)).size ≤ (9223372036854775807 : Nat)) ∧ ((!(decide ((↑(Utf8.decode (lowT s) x.p).fst : Int) ≥ (128 : Int)) && !good (↑(Utf8.decode (lowT s) x.p).fst : Int)) && decide ((↑(Utf8.decode (lowT s) x.p).fst : Int) < (128 : Int))) = true → ({ data := #[(97 : UInt8)] : ByteArray } ++ Utf8.encode (↑(Utf8.decode (lowT s) x.p).fst : Int)).size + (1 : Nat) ≤ (9223372036854775807 : Nat)) ∧ ((!(decide ((↑(Utf8.decode (lowT s) x.p).fst : Int) ≥ (128 : Int)) && !good (↑(Utf8.decode (lowT s) x.p).fst : Int)) && decide ((↑(Utf8.decode (lowT s) x.p).fst : Int) < (128 : Int))) = true → ({ data := #[(97 : UInt8)] : ByteArray } ++ Utf8.encode (↑(Utf8.decode (lowT s) x.p).fst : Int) ++ { data := #[(97 : UInt8)] : ByteArray }).size ≤ (1000000000 : Nat)) ∧ ((decide ((↑(Utf8.decode (lowT s) x.p).fst : Int) ≥ (128 : Int)) && !good (↑(Utf8.decode (lowT s) x.p).fst : Int) || decide ((↑(Utf8.decode (lowT s) x.p).fst : Int) < (128 : Int)) && !rgt ({ data := #[(97 : UInt8)] : ByteArray } ++ Utf8.encode (↑(Utf8.decode (lowT s) x.p).fst : Int) ++ { data := #[(97 : UInt8)] : ByteArray })) = true → { data := #[] : ByteArray } = (ascR s).fst ∧ (1 : Int) = (ascR s).snd ∧ True) ∧ ((decide ((↑(Utf8.decode (lowT s) x.p).fst : Int) ≥ (128 : Int)) && !good (↑(Utf8.decode (lowT s) x.p).fst : Int) || decide ((↑(Utf8.decode (lowT s) x.p).fst : Int) < (128 : Int)) && !rgt ({ data := #[(97 : UInt8)] : ByteArray } ++ Utf8.encode (↑(Utf8.decode (lowT s) x.p).fst : Int) ++ { data := #[(97 : UInt8)] : ByteArray })) = false → x.l.length = x.l.length ∧ (x.l.length + (1 : Nat)) * (4 : Nat) ≤ (140737488355328 : Nat) ∧ x.l.length + (1 : Nat) ≤ (140737488355328 : Nat) ∧ ∃ (x' : (asI s).σ), (rnK x'.l (lowT s) x'.f x'.p = rns (lowT s) ∧ bdN x'.l x'.l.length = false ∧ (lowT s).size ≤ x'.p + x'.f ∧ x'.l.length ≤ x'.p ∧ x'.l.length + x'.f = (lowT s).size ∧ (∀ (y : Int), y ∈ x'.l → (0 : Int) ≤ y ∧ y ≤ (1114111 : Int)) ∧ (x'.l.length = (0 : Nat) → x'.p = (0 : Nat)) ∧ ascL (rns (lowT s)) = ascR s) ∧ x'.f < x.f ∧ true = true ∧ lowT s = lowT s ∧ XV.sl (0 : Nat) (1 : Nat) (0 : Nat) (x.l.length + (1 : Nat)) = XV.sl (0 : Nat) (1 : Nat) (0 : Nat) x'.l.length ∧ XV.ptr (1 : Nat) (0 : Nat) (0 : Nat) (0 : Nat) = XV.ptr (1 : Nat) (0 : Nat) (0 : Nat) (0 : Nat) ∧ (((21 : TypeId) = (21 : TypeId) ∧ true = true ∧ (1 : Nat) = (1 : Nat)) ∧ x.l.length + (1 : Nat) = x'.l.length ∧ ∀ (j : Nat), j < x.l.length + (1 : Nat) → [Bool.rec (X32 (↑(Utf8.decode (lowT s) x.p).fst : Int)) (X32 (x.l.getD j (0 : Int))) (j.blt x.l.length)] = [X32 (x'.l.getD j (0 : Int))]) ∧ (lowT s = lowT s ∧ x.p + (Utf8.decode (lowT s) x.p).snd = x'.p) ∧ True)) ∧ (true = false → x.l.length = x.l.length ∧ (0 : Int) ≤ (0 : Int) ∧ (0 : Int) < (↑x.l.length : Int) ∧ ((!x.l.getD ((0 : Nat)) (0 : Int) == (45 : Int)) = true → in64 ((↑x.l.length : Int) - (1 : Int))) ∧ ((!x.l.getD ((0 : Nat)) (0 : Int) == (45 : Int)) = true → (0 : Int) ≤ (↑x.l.length : Int) - (1 : Int)) ∧ ((!x.l.getD ((0 : Nat)) (0 : Int) == (45 : Int)) = true → (↑x.l.length : Int) - (1 : Int) < (↑x.l.length : Int)) ∧ ((x.l.getD ((0 : Nat)) (0 : Int) == (45 : Int) || x.l.getD ((↑x.l.length : Int) - (1 : Int)).toNat (0 : Int) == (45 : Int)) = true → { data := #[] : ByteArray } = (ascR s).fst ∧ (1 : Int) = (ascR s).snd ∧ True) ∧ ((x.l.getD ((0 : Nat)) (0 : Int) == (45 : Int) || x.l.getD ((↑x.l.length : Int) - (1 : Int)).toNat (0 : Int) == (45 : Int)) = false → (∀ (i : Nat), i < x.l.length → [X32 (x.l.getD i (0 : Int))] = [X32 (Option.rec (0 : Int) (fun (val : Int) => val) x.l[i]?)]) ∧ x.l.length ≤ (2000 : Nat) ∧ (∀ (i : Nat), i < x.l.length → (0 : Int) ≤ Option.rec (0 : Int) (fun (val : Int) => val) x.l[i]? ∧ Option.rec (0 : Int) (fun (val : Int) => val) x.l[i]? ≤ (1114111 : Int)) ∧ (((encR (fun (i : Nat) => Option.rec (0 : Int) (fun (val : Int) => val) x.l[i]?) x.l.length).snd != (0 : Int)) = true → { data := #[] : ByteArray } = (ascR s).fst ∧ (encR (fun (i : Nat) => Option.rec (0 : Int) (fun (val : Int) => val) x.l[i]?) x.l.length).snd = (ascR s).snd ∧ True) ∧ (((encR (fun (i : Nat) => Option.rec (0 : Int) (fun (val : Int) => val) x.l[i]?) x.l.length).snd != (0 : Int)) = false → (4 : Nat) + (txtO (encR (fun (i : Nat) => Option.rec (0 : Int) (fun (val : Int) => val) x.l[i]?) x.l.length).fst).size ≤ (9223372036854775807 : Nat) ∧ (decide ((↑({ data := #[(120 : UInt8), (110 : UInt8), (45 : UInt8), (45 : UInt8)] : ByteArray } ++ txtO (encR (fun (i : Nat) => Option.rec (0 : Int) (fun (val : Int) => val) x.l[i]?) x.l.length).fst).size : Int) > (63 : Int)) = true → { data := #[] : ByteArray } = (ascR s).fst ∧ (2 : Int) = (ascR s).snd ∧ True) ∧ (decide ((↑({ data := #[(120 : UInt8), (110 : UInt8), (45 : UInt8), (45 : UInt8)] : ByteArray } ++ txtO (encR (fun (i : Nat) => Option.rec (0 : Int) (fun (val : Int) => val) x.l[i]?) x.l.length).fst).size : Int) > (63 : Int)) = false → (4 : Nat) + (txtO (encR (fun (i : Nat) => Option.rec (0 : Int) (fun (val : Int) => val) x.l[i]?) x.l.length).fst).size ≤ (9223372036854775807 : Nat) ∧ { data := #[(120 : UInt8), (110 : UInt8), (45 : UInt8), (45 : UInt8)] : ByteArray } ++ txtO (encR (fun (i : Nat) => Option.rec (0 : Int) (fun (val : Int) => val) x.l[i]?) x.l.length).fst = (ascR s).fst ∧ (0 : Int) = (ascR s).snd ∧ True))))) ∧ ((lowT s).size ≤ x.p → (false = true → False) ∧ (false = false → x.l.length = x.l.length ∧ (0 : Int) ≤ (0 : Int) ∧ (0 : Int) < (↑x.l.length : Int) ∧ ((!x.l.getD ((0 : Nat)) (0 : Int) == (45 : Int)) = true → in64 ((↑x.l.length : Int) - (1 : Int))) ∧ ((!x.l.getD ((0 : Nat)) (0 : Int) == (45 : Int)) = true → (0 : Int) ≤ (↑x.l.length : Int) - (1 : Int)) ∧ ((!x.l.getD ((0 : Nat)) (0 : Int) == (45 : Int)) = true → (↑x.l.length : Int) - (1 : Int) < (↑x.l.length : Int)) ∧ ((x.l.getD ((0 : Nat)) (0 : Int) == (45 : Int) || x.l.getD ((↑x.l.length : Int) - (1 : Int)).toNat (0 : Int) == (45 : Int)) = true → { data := #[] : ByteArray } = (ascR s).fst ∧ (1 : Int) = (ascR s).snd ∧ True) ∧ ((x.l.getD ((0 : Nat)) (0 : Int) == (45 : Int) || x.l.getD ((↑x.l.length : Int) - (1 : Int)).toNat (0 : Int) == (45 : Int)) = false → (∀ (i : Nat), i < x.l.length → [X32 (x.l.getD i (0 : Int))] = [X32 (Option.rec (0 : Int) (fun (val : Int) => val) x.l[i]?)]) ∧ x.l.length ≤ (2000 : Nat) ∧ (∀ (i : Nat), i < x.l.length → (0 : Int) ≤ Option.rec (0 : Int) (fun (val : Int) => val) x.l[i]? ∧ Option.rec (0 : Int) (fun (val : Int) => val) x.l[i]? ≤ (1114111 : Int)) ∧ (((encR (fun (i : Nat) => Option.rec (0 : Int) (fun (val : Int) => val) x.l[i]?) x.l.length).snd != (0 : Int)) = true → { data := #[] : ByteArray } = (ascR s).fst ∧ (encR (fun (i : Nat) => Option.rec (0 : Int) (fun (val : Int) => val) x.l[i]?) x.l.length).snd = (ascR s).snd ∧ True) ∧ (((encR (fun (i : Nat) => Option.rec (0 : Int) (fun (val : Int) => val) x.l[i]?) x.l.length).snd != (0 : Int)) = false → (4 : Nat) + (txtO (encR (fun (i : Nat) => Option.rec (0 : Int) (fun (val : Int) => val) x.l[i]?) x.l.length).fst).size ≤ (9223372036854775807 : Nat) ∧ (decide ((↑({ data := #[(120 : UInt8), (110 : UInt8), (45 : UInt8), (45 : UInt8)] : ByteArray } ++ txtO (encR (fun (i : Nat) => Option.rec (0 : Int) (fun (val : Int) => val) x.l[i]?) x.l.length).fst).size : Int) > (63 : Int)) = true → { data := #[] : ByteArray } = (ascR s).fst ∧ (2 : Int) = (ascR s).snd ∧ True) ∧ (decide ((↑({ data := #[(120 : UInt8), (110 : UInt8), (45 : UInt8), (45 : UInt8)] : ByteArray } ++ txtO (encR (fun (i : Nat) => Option.rec (0 : Int) (fun (val : Int) => val) x.l[i]?) x.l.length).fst).size : Int) > (63 : Int)) = false → (4 : Nat) + (txtO (encR (fun (i : Nat) => Option.rec (0 : Int) (fun (val : Int) => val) x.l[i]?) x.l.length).fst).size ≤ (9223372036854775807 : Nat) ∧ { data := #[(120 : UInt8), (110 : UInt8), (45 : UInt8), (45 : UInt8)] : ByteArray } ++ txtO (encR (fun (i : Nat) => Option.rec (0 : Int) (fun (val : Int) => val) x.l[i]?) x.l.length).fst = (ascR s).fst ∧ (0 : Int) = (ascR s).snd ∧ True)))))))
theorem ascV_eq (s : ByteArray) : ascV s = (funC cxa Tryd.f13 (mkSc (asE s) (bodyOf Tryd.f13)) [XT s] (.tup [XT (ascR s).1, XI (ascR s).2])) := by kernel_rfl
theorem enc8_size (r : Int) : (Utf8.encode r).size ≤ 4 := by
  unfold Utf8.encode
  generalize (if Utf8.valid r = true then r.toNat else Utf8.runeError) = c
  dsimp only
  split
  · exact (by decide : 1 ≤ 4)
  · split
    · exact (by decide : 2 ≤ 4)
    · split
      · exact (by decide : 3 ≤ 4)
      · exact Nat.le_refl 4
theorem dec8_rng (s : ByteArray) (p : Nat) : (Utf8.decode s p).1 ≤ 1114111 ∧ 1 ≤ (Utf8.decode s p).2 := by
  have hb : ∀ k, (s.get! k).toNat < 256 := fun k => UInt8.toNat_lt _
  have hv : ∀ c : Nat, Utf8.valid c = true → c ≤ 1114111 := fun c h => by
    unfold Utf8.valid at h
    simp only [Bool.or_eq_true, Bool.and_eq_true, decide_eq_true_eq] at h
    omega
  unfold Utf8.decode
  dsimp only
  have h0 := hb p
  have h1 := hb (p + 1)
  have h2 := hb (p + 2)
  split
  · exact ⟨by dsimp only; omega, Nat.le_refl _⟩
  split
  · split
    · exact ⟨by dsimp only; omega, by dsimp only; omega⟩
    · exact ⟨by decide, by decide⟩
  split
  · split
    · exact ⟨by dsimp only; omega, by dsimp only; omega⟩
    · exact ⟨by decide, by decide⟩
  split
  · split
    · rename_i h
      simp only [Bool.and_eq_true, decide_eq_true_eq] at h
      exact ⟨hv _ h.2, by dsimp only; omega⟩
    · exact ⟨by decide, by decide⟩
  exact ⟨by decide, by decide⟩
theorem txtOf_size (n : Nat) (f : Nat → UInt8) : (txtOf n f).size = n := by
  unfold txtOf ofBytes
  show ((List.range n).map f).length = n
  simp
theorem lowT_size (s : ByteArray) : (lowT s).size = s.size := txtOf_size _ _
theorem cutPre_size (s p : ByteArray) : (cutPreB s p).1.size ≤ s.size := by
  unfold cutPreB
  rw [mk8_size, size_data, Lib.trimPrefix]
  split
  · rw [List.length_drop]; omega
  · exact Nat.le_refl _
theorem bdN_succ {o : List Int} {i : Nat} (h : bdN o i = false) (h1 : badC (o.getD i 0) = false) : bdN o (i + 1) = false := by rw [bdN, h, h1]; rfl
theorem bdN_le (o : List Int) (i : Nat) : ∀ n, i ≤ n → bdN o i = true → bdN o n = true
  | 0, h, k => by obtain rfl : i = 0 := by omega
                  exact k
  | n + 1, h, k => by
    by_cases e : i = n + 1
    · rw [← e]; exact k
    · rw [bdN, bdN_le o i n (by omega) k]; rfl
theorem pair_eq {α β : Type} {x : α × β} {a : α} {b : β} (h : x = (a, b)) : a = x.1 ∧ b = x.2 ∧ True := by rw [h]; exact ⟨rfl, rfl, trivial⟩
theorem dnG_len (b : Int) : ∀ (l : List UInt8) (i w k : Int) (l' : List UInt8) (j : Int), dnG b l i w k = some (l', j) → l'.length < l.length
  | [], i, w, k, l', j, h => by simp [dnG] at h
  | c :: l, i, w, k, l', j, h => by
    rw [dnG] at h
    split at h
    · cases h
    · split at h
      · simp only [Option.some.injEq, Prod.mk.injEq] at h
        rw [← h.1]; exact Nat.lt_succ_self _
      · have := dnG_len b l _ _ _ l' j h
        simp only [List.length_cons]; omega
theorem dcG_len : ∀ (f : Nat) (l : List UInt8) (n i b : Int) (o o' : List Int), dcG f l n i b o = some o' → o'.length ≤ o.length + l.length
  | f, [], n, i, b, o, o', h => by
    have : dcG f [] n i b o = some o := by cases f <;> rfl
    rw [this] at h
    obtain rfl := Option.some.inj h
    omega
  | 0, c :: l, n, i, b, o, o', h => by simp [dcG] at h
  | f + 1, c :: l, n, i, b, o, o', h => by
    rw [dcG_cons] at h
    cases hd : dnG b (c :: l) i 1 36 with
    | none => rw [hd] at h; cases h
    | some r =>
      obtain ⟨l', j⟩ := r
      rw [hd, dcN] at h
      split at h
      · cases h
      · have h1 := dnG_len _ _ _ _ _ _ _ hd
        have h2 := dcG_len f l' _ _ _ _ o' h
        rw [List.length_append, List.length_cons, List.length_take, List.length_drop] at h2
        omega
theorem decR_len (s : ByteArray) : (decR s).1.length ≤ 126 := by
  rw [decR]
  split
  · simp
  · rename_i h63
    split
    · simp
    · have hk : ∀ r, (decK s r).1.length ≤ 126 ∨ ∃ o, r = some o ∧ (decK s r).1 = o := by
        intro r
        cases r with
        | none => left; simp [decK]
        | some o =>
          rw [decK]
          split
          · left; simp
          · right; exact ⟨o, rfl, rfl⟩
      rcases hk (dcG (s.size + 1) (lst s (lastB s 45 + 1).toNat) 128 0 72 (preL s (imax (lastB s 45) 0).toNat)) with h | ⟨o, h1, h2⟩
      · exact h
      · rw [h2]
        have := dcG_len _ _ _ _ _ _ _ h1
        have e1 : (preL s (imax (lastB s 45) 0).toNat).length ≤ s.size := by
          unfold preL
          rw [List.length_map, List.length_take, ← size_data]; omega
        have e2 : (lst s (lastB s 45 + 1).toNat).length ≤ s.size := by
          unfold lst
          rw [List.length_drop, ← size_data]; omega
        omega
theorem uni_v (s : ByteArray) (hs : s.size ≤ 1000000) : uniV s := by
  have hsz := cutPre_size s xnT
  unfold uniV
  rw [show (⟨#[120, 110, 45, 45]⟩ : ByteArray) = xnT from rfl]
  refine ⟨fun h => ?_, fun h => ?_⟩
  · have h : (cutPreB s xnT).2 = false := by simpa using h
    exact pair_eq (by rw [uniR, if_pos h])
  have h0 : ¬ (cutPreB s xnT).2 = false := by simpa using h
  clear h
  refine ⟨by omega, fun h => ?_, fun h => ?_⟩
  · have h : (decR (cutPreB s xnT).1).2 ≠ 0 := by simpa using h
    exact pair_eq (by rw [uniR, if_neg h0, if_pos h])
  have h1 : ¬ (decR (cutPreB s xnT).1).2 ≠ 0 := by simpa using h
  clear h
  have hU : uniL (decR (cutPreB s xnT).1).1 = uniR s := by rw [uniR, if_neg h0, if_neg h1]
  refine ⟨⟨⟨0⟩, ⟨Nat.zero_le _, rfl, hU⟩, rfl, rfl, rfl, rfl, rfl, rfl, rfl, trivial⟩, ?_⟩
  have hol := decR_len (cutPreB s xnT).1
  generalize (decR (cutPreB s xnT).1).1 = o at *
  rintro ⟨i⟩ ⟨hi, hb, -⟩
  have hi : i ≤ o.length := hi
  have hb : bdN o i = false := hb
  dsimp only
  refine ⟨fun h => ?_, fun h => ?_⟩
  · have h : (i : Int) < o.length := of_decide_eq_true h
    have he := enc8_size (o.getD i 0)
    rw [Int.toNat_natCast]
    refine ⟨by omega, h, fun _ => by omega, fun _ => by rw [ByteArray.size_append]; show 1 + _ + 1 ≤ _; omega, fun _ => by rw [ByteArray.size_append, ByteArray.size_append]; show 1 + _ + 1 ≤ _; omega, fun h1 => ?_, fun h1 => ?_⟩
    · have h1 : badC (o.getD i 0) = true := h1
      exact pair_eq (by rw [← hU, uniL, if_pos]; exact bdN_le o (i + 1) _ (by omega) (by rw [bdN, h1, Bool.or_true]))
    · have h1 : badC (o.getD i 0) = false := h1
      exact ⟨by unfold in64; omega, ⟨i + 1⟩, ⟨by show i + 1 ≤ o.length; omega, bdN_succ hb h1, hU⟩, by show o.length - (i + 1) < o.length - i; omega, rfl, rfl, rfl, rfl, rfl, rfl, rfl, trivial⟩
  have h : ¬ (i : Int) < o.length := of_decide_eq_false h
  obtain rfl : i = o.length := by omega
  have hpos : byN o o.length = true → 0 < o.length := fun h => by
    cases o with
    | nil => cases h
    | cons _ _ => exact Nat.succ_pos _
  have hp2 : ∀ c, (!(!byN o o.length || c)) = true → 0 < o.length := fun c h => hpos (by simp at h; exact h.1)
  have ei : ((o.length : Int) - 1).toNat = o.length - 1 := by omega
  rw [ei]
  refine ⟨fun _ => Int.le_refl _, fun h => ?_, fun h => ?_, fun h => ?_, fun _ => by omega, fun h => ?_, fun h => ?_⟩
  · have := hpos (by simpa using h); omega
  · have := hp2 _ h; unfold in64; omega
  · have := hp2 _ h; omega
  · exact pair_eq (by rw [← hU, uniL, if_neg (by rw [hb]; simp), if_pos h])
  · refine ⟨fun j _ => congrArg (fun z => [X32 z]) (getD_rec o j), ?_⟩
    have hA : (fun j : Nat => Option.rec (motive := fun _ => Int) 0 (fun v => v) o[j]?) = fun j => o.getD j 0 := by
      funext j; exact (getD_rec o j).symm
    have hE : encT o.length (fun j => Option.rec (motive := fun _ => Int) 0 (fun v => v) o[j]?) = encB o := by
      rw [hA, encT]
      congr 1
      apply List.ext_getElem?
      intro j
      rw [List.getElem?_map]
      by_cases hj : j < o.length
      · rw [List.getElem?_range hj, List.getElem?_eq_getElem hj]
        simp only [Option.map_some]
        rw [List.getD_eq_getElem?_getD, List.getElem?_eq_getElem hj]
        rfl
      · rw [List.getElem?_eq_none (by simpa using hj), List.getElem?_eq_none (by omega)]
        rfl
    have := pair_eq (x := uniR s) (a := encB o) (b := 0) (by rw [← hU, uniL, if_neg (by rw [hb]; simp), if_neg (by rw [h]; simp)])
    exact ⟨hE.trans this.1, this.2⟩
theorem cxu_ok : cxu.ok Tryd.prog := (((cx0_ok.addC rgt_ok).addC good_ok).addC dec_ok).addC cutPre_ok
theorem uni_ok : CTok Tryd.prog 24 uniC := C1_ok cxu_ok Tryd.func24 rfl (by decide) dStr_eq.ok (by kernel_rfl) (fun _ => rfl) fun s hc => exv (uniV_eq s) (uni_v s (hc _ (by simp)))
theorem cxa_ok : cxa.ok Tryd.prog := (((((((cx0_ok.addC enc_ok).addC good_ok).addC valid_ok).addC uni_ok).addC hasPre_ok).addC rgt_ok).addC pla_ok).addC low_ok
theorem rnG_yes {s : ByteArray} {f p : Nat} (h : p < s.size) : rnG s (f + 1) p = ((Utf8.decode s p).1 : Int) :: rnG s f (p + (Utf8.decode s p).2) := by rw [rnG, if_pos h]
theorem rnG_no {s : ByteArray} {f p : Nat} (h : ¬ p < s.size) : rnG s f p = [] := by
  cases f with
  | zero => rfl
  | succ f => rw [rnG, if_neg h]
theorem bdN_app (o l : List Int) : ∀ i, i ≤ o.length → bdN (o ++ l) i = bdN o i
  | 0, _ => rfl
  | i + 1, h => by
    rw [bdN, bdN, bdN_app o l i (by omega)]
    congr 2
    rw [List.getD_eq_getElem?_getD, List.getD_eq_getElem?_getD, List.getElem?_append_left (by omega)]
theorem bdN_snoc (o : List Int) (r : Int) : bdN (o ++ [r]) (o ++ [r]).length = (bdN o o.length || badC r) := by
  rw [List.length_append, List.length_singleton, bdN, bdN_app o [r] o.length (Nat.le_refl _)]
  congr 2
  rw [List.getD_eq_getElem?_getD]
  simp
theorem pla_pos (s : ByteArray) (h : pla s s.size = false) : 0 < s.size := by
  cases hs : s.size with
  | zero => rw [hs] at h; cases h
  | succ n => exact Nat.succ_pos _
theorem asc_v (s : ByteArray) (hs : s.size ≤ 2000) : ascV s := by
  have hls := lowT_size s
  unfold ascV
  rw [show (⟨#[120, 110, 45, 45]⟩ : ByteArray) = xnT from rfl]
  have hR : ascR s = ascS (lowT s) := rfl
  generalize hr : ascR s = res at *
  generalize lowT s = t at *
  refine ⟨by omega, by omega, fun hp => ⟨by omega, fun h => ?_, fun h => ⟨fun h2 => ⟨by omega, ?_⟩, fun h2 => ?_⟩⟩, fun hp => ⟨by omega, fun h => ?_, fun h => ?_⟩⟩
  · have h : rgt t = false := by simpa using h
    exact pair_eq (by rw [hR, ascS, if_pos hp, if_pos h])
  · have h : ¬ rgt t = false := by simpa using h
    exact pair_eq (by rw [hR, ascS, if_pos hp, if_neg h, if_pos h2])
  · have h : ¬ rgt t = false := by simpa using h
    exact pair_eq (by rw [hR, ascS, if_pos hp, if_neg h, if_neg (by rw [h2]; decide)])
  · have h : validB t = false := by simpa using h
    exact pair_eq (by rw [hR, ascS, if_neg (by rw [hp]; decide), if_pos h])
  have hv : ¬ validB t = false := by simpa using h
  clear h
  have hL : ascL (rns t) = res := by rw [hR, ascS, if_neg (by rw [hp]; decide), if_neg hv]
  have hpos := pla_pos t hp
  refine ⟨⟨⟨t.size, 0, []⟩, ⟨rfl, rfl, by show t.size ≤ 0 + t.size; omega, Nat.le_refl _, by show 0 + t.size = t.size; omega, fun y hy => by simp at hy, fun _ => rfl, hL⟩, rfl, rfl, rfl, rfl, ⟨⟨rfl, rfl, rfl⟩, rfl, fun j hj => absurd hj (Nat.not_lt_zero _)⟩, ⟨rfl, rfl⟩, trivial⟩, ?_⟩
  rintro ⟨f, p, l⟩ ⟨i1, i2, i3, i4, i5, i6, i7, -⟩
  dsimp only at i1 i2 i3 i4 i5 i6 i7
  dsimp only
  have hA : (fun i : Nat => Option.rec (motive := fun _ => Int) 0 (fun v => v) l[i]?) = fun j => l.getD j 0 := by
    funext j; exact (getD_rec l j).symm
  have fin : ¬ p < t.size → l.length = l.length ∧ (0 : Int) ≤ 0 ∧ (0 : Int) < l.length ∧ ((!l.getD 0 0 == 45) = true → in64 ((l.length : Int) - 1)) ∧ ((!l.getD 0 0 == 45) = true → (0 : Int) ≤ (l.length : Int) - 1) ∧ ((!l.getD 0 0 == 45) = true → (l.length : Int) - 1 < l.length) ∧
      ((l.getD 0 0 == 45 || l.getD ((l.length : Int) - 1).toNat 0 == 45) = true → (⟨#[]⟩ : ByteArray) = res.1 ∧ 1 = res.2 ∧ True) ∧
      ((l.getD 0 0 == 45 || l.getD ((l.length : Int) - 1).toNat 0 == 45) = false → (∀ i : Nat, i < l.length → ([X32 (l.getD i 0)] : List XV) = [X32 (Option.rec (motive := fun _ => Int) 0 (fun v => v) l[i]?)]) ∧ l.length ≤ 2000 ∧
        (∀ i : Nat, i < l.length → 0 ≤ (Option.rec (motive := fun _ => Int) 0 (fun v => v) l[i]? : Int) ∧ (Option.rec (motive := fun _ => Int) 0 (fun v => v) l[i]? : Int) ≤ 1114111) ∧
        (((encR (fun j => l.getD j 0) l.length).2 != 0) = true → (⟨#[]⟩ : ByteArray) = res.1 ∧ (encR (fun j => l.getD j 0) l.length).2 = res.2 ∧ True) ∧
        (((encR (fun j => l.getD j 0) l.length).2 != 0) = false → 4 + (txtO (encR (fun j => l.getD j 0) l.length).1).size ≤ 9223372036854775807 ∧
          (decide (((xnT ++ txtO (encR (fun j => l.getD j 0) l.length).1).size : Int) > 63) = true → (⟨#[]⟩ : ByteArray) = res.1 ∧ 2 = res.2 ∧ True) ∧
          (decide (((xnT ++ txtO (encR (fun j => l.getD j 0) l.length).1).size : Int) > 63) = false → 4 + (txtO (encR (fun j => l.getD j 0) l.length).1).size ≤ 9223372036854775807 ∧ xnT ++ txtO (encR (fun j => l.getD j 0) l.length).1 = res.1 ∧ 0 = res.2 ∧ True))) := by
    intro h
    have e : rns t = l := by rw [← i1, rnK, rnG_no h, List.append_nil]
    rw [e] at hL
    have hl0 : l.length ≠ 0 := fun h0 => by have := i7 h0; omega
    have ei : ((l.length : Int) - 1).toNat = l.length - 1 := by omega
    have hg : ∀ i, i < l.length → 0 ≤ l.getD i 0 ∧ l.getD i 0 ≤ 1114111 := fun i hi => by
      rw [List.getD_eq_getElem?_getD, List.getElem?_eq_getElem hi]
      exact i6 _ (List.getElem_mem hi)
    obtain ⟨q1, q2⟩ := encR_ok (q := ⟨l.length, fun j => l.getD j 0⟩) (by show l.length ≤ 2000; omega) hg
    dsimp only at q1 q2
    rw [ei]
    refine ⟨rfl, Int.le_refl _, by omega, fun _ => by unfold in64; omega, fun _ => by omega, fun _ => by omega, fun h => ?_, fun h => ⟨fun i _ => congrArg (fun z => [X32 z]) (getD_rec l i), by omega, fun i hi => ?_, fun h2 => ?_, fun h2 => ?_⟩⟩
    · exact pair_eq (by rw [← hL, ascL, if_neg (by rw [i2]; decide), if_pos h])
    · have := hg i hi
      rw [getD_rec] at this
      exact this
    · exact pair_eq (by rw [← hL, ascL, if_neg (by rw [i2]; decide), if_neg (by rw [h]; decide), if_pos (by simpa using h2)])
    · have h2 : ¬ (encR (fun j => l.getD j 0) l.length).2 ≠ 0 := by simpa using h2
      have ht := txtO_size (encR (fun j => l.getD j 0) l.length).1
      refine ⟨by omega, fun h3 => ?_, fun h3 => ⟨by omega, ?_⟩⟩
      · have h3 : ((xnT ++ txtO (encR (fun j => l.getD j 0) l.length).1).size : Int) > 63 := of_decide_eq_true h3
        exact pair_eq (by rw [← hL, ascL, if_neg (by rw [i2]; decide), if_neg (by rw [h]; decide), if_neg h2, if_pos (by omega)])
      · have h3 : ¬ ((xnT ++ txtO (encR (fun j => l.getD j 0) l.length).1).size : Int) > 63 := of_decide_eq_false h3
        exact pair_eq (by rw [← hL, ascL, if_neg (by rw [i2]; decide), if_neg (by rw [h]; decide), if_neg h2, if_neg (by omega)])
  rw [hA]
  refine ⟨fun h => ⟨fun _ => ?_, fun h2 => by cases h2⟩, fun h => ⟨fun h2 => absurd h2 (by decide), fun _ => fin (by omega)⟩⟩
  have hd := dec8_rng t p
  have he := enc8_size ((Utf8.decode t p).1 : Int)
  obtain ⟨f, rfl⟩ : ∃ f', f = f' + 1 := ⟨f - 1, by omega⟩
  have hsn : rnK (l ++ [((Utf8.decode t p).1 : Int)]) t f (p + (Utf8.decode t p).2) = rns t := by
    rw [← i1, rnK, rnK, rnG_yes h, List.append_assoc]; rfl
  generalize hrr : ((Utf8.decode t p).1 : Int) = r at *
  refine ⟨fun _ => by omega, fun _ => by rw [ByteArray.size_append]; show 1 + _ + 1 ≤ _; omega, fun _ => by rw [ByteArray.size_append, ByteArray.size_append]; show 1 + _ + 1 ≤ _; omega, fun h1 => ?_, fun h1 => ?_⟩
  · have h1 : badC r = true := h1
    refine pair_eq ?_
    rw [← hL, ascL, if_pos]
    rw [← hsn, rnK]
    have h2 := bdN_snoc l r
    rw [h1, Bool.or_true] at h2
    generalize rnG t f (p + (Utf8.decode t p).2) = tl
    refine bdN_le _ (l ++ [r]).length _ (by rw [show ((l ++ [r]) ++ tl).length = (l ++ [r]).length + tl.length from List.length_append]; exact Nat.le_add_right _ _) ?_
    rw [bdN_app _ _ _ (Nat.le_refl _)]
    exact h2
  · have h1 : badC r = false := h1
    refine ⟨rfl, by omega, by omega, ⟨f, p + (Utf8.decode t p).2, l ++ [r]⟩, ⟨hsn, by show bdN (l ++ [r]) (l ++ [r]).length = false; rw [bdN_snoc, i2, h1]; rfl, by show t.size ≤ p + (Utf8.decode t p).2 + f; omega, by show (l ++ [r]).length ≤ _; rw [List.length_append, List.length_singleton]; show l.length + 1 ≤ p + (Utf8.decode t p).2; omega, by show (l ++ [r]).length + f = t.size; rw [List.length_append, List.length_singleton]; omega, fun y hy => ?_, fun h0 => by simp at h0, hL⟩, by show f < f + 1; omega, rfl, rfl, by rw [List.length_append]; rfl, rfl, ⟨⟨rfl, rfl, rfl⟩, by rw [List.length_append]; rfl, fun j hj => ?_⟩, ⟨rfl, rfl⟩, trivial⟩
    · rcases List.mem_append.1 hy with k | k
      · exact i6 y k
      · obtain rfl := List.mem_singleton.1 k
        omega
    · rw [bltN, List.getD_eq_getElem?_getD, List.getD_eq_getElem?_getD]
      by_cases e : j < l.length
      · rw [decide_eq_true e, List.getElem?_append_left e]
      · rw [decide_eq_false e, show j = l.length by omega]
        simp
def ascC : CT := C1 dStr (fun s => [s.size ≤ 2000]) fun s => .tup [XT (ascR s).1, XI (ascR s).2]
theorem asc_ok : CTok Tryd.prog 13 ascC := C1_ok cxa_ok Tryd.func13 rfl (by decide) dStr_eq.ok (by kernel_rfl) (fun _ => rfl) fun s hc => exv (ascV_eq s) (asc_v s (hc _ (by simp)))
end Go.Proofs.YthomfpdigmeheaaDoorAv
set_option linter.unusedVariables false
set_option linter.unusedSimpArgs false
set_option maxRecDepth 100000
namespace Go.Proofs.YthomfpdigmeheaaDoorAv
open Go Go.RowKit
def ptT : ByteArray := ⟨#[46]⟩
def eaE (f : ByteArray → ByteArray × Int) (l : List ByteArray) : Nat → Int
  | 0 => 0
  | i + 1 => if eaE f l i ≠ 0 then eaE f l i else (f (l.getD i ⟨#[]⟩)).2
/-- A name's labels. -/
def labs (s : ByteArray) : List ByteArray := splitS (cutSufB s ptT).1 ptT
def eaR (f : ByteArray → ByteArray × Int) (s : ByteArray) : ByteArray × Int :=
  if eaE f (labs s) (labs s).length ≠ 0 then (⟨#[]⟩, eaE f (labs s) (labs s).length) else (ljF (fun j => (f ((labs s).getD j ⟨#[]⟩)).1) (labs s).length, 0)
def FN (f : FuncId) : XV := .v (.p (.func (.func f) #[] #[]))
def eaI (fn : FuncId) (f : ByteArray → ByteArray × Int) (s : ByteArray) : Inv where
  σ := IL
  S := fun x => ⟨[(1, FN fn), (6, .sl 0 1 0 x.i), (17, strsL (labs s)), (18, XI (labs s).length), (19, XI x.i)], [(0, .vec 9 true x.i 1 fun j => [XT (f ((labs s).getD j ⟨#[]⟩)).1])], 1, false, []⟩
  inv := fun x => x.i ≤ (labs s).length ∧ eaE f (labs s) x.i = 0
  μ := fun x => (labs s).length - x.i
def eaEn (fn : FuncId) (f : ByteArray → ByteArray × Int) (s : ByteArray) : Env := { loops := [(0, eaI fn f s)], own := [(3, [(6, 9, 1)])], frz := [(11, [6])] }
def cxea : Cx := { cx0 with C := [(17, cutSufC), (18, lspC), (19, ljnC), (13, ascC), (24, uniC)] }
def eaAV (s : ByteArray) : Prop :=
  s.size ≤ (1000000000 : Nat) ∧ (cutSufB s { data := #[(46 : UInt8)] : ByteArray }).fst.size ≤ (1000000000 : Nat) ∧ (∃ (x : (eaI (13 : FuncId) ascR s).σ), (x.i ≤ (splitS (cutSufB s { data := #[(46 : UInt8)] : ByteArray }).fst { data := #[(46 : UInt8)] : ByteArray }).length ∧ eaE ascR (splitS (cutSufB s { data := #[(46 : UInt8)] : ByteArray }).fst { data := #[(46 : UInt8)] : ByteArray }) x.i = (0 : Int)) ∧ true = true ∧ XV.v (AV.p (Value.func (Fn.func (13 : FuncId)) #[] #[])) = XV.v (AV.p (Value.func (Fn.func (13 : FuncId)) #[] #[])) ∧ XV.sl (0 : Nat) (1 : Nat) (0 : Nat) (0 : Nat) = XV.sl (0 : Nat) (1 : Nat) (0 : Nat) x.i ∧ ((XV.fz (splitS (cutSufB s { data := #[(46 : UInt8)] : ByteArray }).fst { data := #[(46 : UInt8)] : ByteArray }).length (1 : Nat) fun (i : Nat) => [XT ((splitS (cutSufB s { data := #[(46 : UInt8)] : ByteArray }).fst { data := #[(46 : UInt8)] : ByteArray }).getD i { data := #[] : ByteArray })]) = XV.fz (splitS (cutSufB s { data := #[(46 : UInt8)] : ByteArray }).fst { data := #[(46 : UInt8)] : ByteArray }).length (1 : Nat) fun (i : Nat) => [XT ((splitS (cutSufB s { data := #[(46 : UInt8)] : ByteArray }).fst { data := #[(46 : UInt8)] : ByteArray }).getD i { data := #[] : ByteArray })]) ∧ (↑(splitS (cutSufB s { data := #[(46 : UInt8)] : ByteArray }).fst { data := #[(46 : UInt8)] : ByteArray }).length : Int) = (↑(splitS (cutSufB s { data := #[(46 : UInt8)] : ByteArray }).fst { data := #[(46 : UInt8)] : ByteArray }).length : Int) ∧ (0 : Int) = (↑x.i : Int) ∧ (((9 : Nat) = (9 : TypeId) ∧ true = true ∧ (1 : Nat) = (1 : Nat)) ∧ (0 : Nat) = x.i ∧ ∀ (j : Nat), j < (0 : Nat) → [] = [XT ((ascR ((splitS (cutSufB s { data := #[(46 : UInt8)] : ByteArray }).fst { data := #[(46 : UInt8)] : ByteArray }).getD j { data := #[] : ByteArray })).fst)]) ∧ True) ∧ ∀ (x : IL), x.i ≤ (splitS (cutSufB s { data := #[(46 : UInt8)] : ByteArray }).fst { data := #[(46 : UInt8)] : ByteArray }).length ∧ eaE ascR (splitS (cutSufB s { data := #[(46 : UInt8)] : ByteArray }).fst { data := #[(46 : UInt8)] : ByteArray }) x.i = (0 : Int) → (decide ((↑x.i : Int) < (↑(splitS (cutSufB s { data := #[(46 : UInt8)] : ByteArray }).fst { data := #[(46 : UInt8)] : ByteArray }).length : Int)) = true → (0 : Int) ≤ (↑x.i : Int) ∧ (↑x.i : Int) < (↑(splitS (cutSufB s { data := #[(46 : UInt8)] : ByteArray }).fst { data := #[(46 : UInt8)] : ByteArray }).length : Int) ∧ ((splitS (cutSufB s { data := #[(46 : UInt8)] : ByteArray }).fst { data := #[(46 : UInt8)] : ByteArray }).getD (↑x.i : Int).toNat { data := #[] : ByteArray }).size ≤ (2000 : Nat) ∧ (((ascR ((splitS (cutSufB s { data := #[(46 : UInt8)] : ByteArray }).fst { data := #[(46 : UInt8)] : ByteArray }).getD (↑x.i : Int).toNat { data := #[] : ByteArray })).snd != (0 : Int)) = true → { data := #[] : ByteArray } = (eaR ascR s).fst ∧ (ascR ((splitS (cutSufB s { data := #[(46 : UInt8)] : ByteArray }).fst { data := #[(46 : UInt8)] : ByteArray }).getD (↑x.i : Int).toNat { data := #[] : ByteArray })).snd = (eaR ascR s).snd ∧ True) ∧ (((ascR ((splitS (cutSufB s { data := #[(46 : UInt8)] : ByteArray }).fst { data := #[(46 : UInt8)] : ByteArray }).getD (↑x.i : Int).toNat { data := #[] : ByteArray })).snd != (0 : Int)) = false → x.i = x.i ∧ (x.i + (1 : Nat)) * (16 : Nat) ≤ (140737488355328 : Nat) ∧ x.i + (1 : Nat) ≤ (140737488355328 : Nat) ∧ in64 ((↑x.i : Int) + (1 : Int)) ∧ ∃ (x' : (eaI (13 : FuncId) ascR s).σ), (x'.i ≤ (splitS (cutSufB s { data := #[(46 : UInt8)] : ByteArray }).fst { data := #[(46 : UInt8)] : ByteArray }).length ∧ eaE ascR (splitS (cutSufB s { data := #[(46 : UInt8)] : ByteArray }).fst { data := #[(46 : UInt8)] : ByteArray }) x'.i = (0 : Int)) ∧ (splitS (cutSufB s { data := #[(46 : UInt8)] : ByteArray }).fst { data := #[(46 : UInt8)] : ByteArray }).length - x'.i < (splitS (cutSufB s { data := #[(46 : UInt8)] : ByteArray }).fst { data := #[(46 : UInt8)] : ByteArray }).length - x.i ∧ true = true ∧ XV.v (AV.p (Value.func (Fn.func (13 : FuncId)) #[] #[])) = XV.v (AV.p (Value.func (Fn.func (13 : FuncId)) #[] #[])) ∧ XV.sl (0 : Nat) (1 : Nat) (0 : Nat) (x.i + (1 : Nat)) = XV.sl (0 : Nat) (1 : Nat) (0 : Nat) x'.i ∧ ((XV.fz (splitS (cutSufB s { data := #[(46 : UInt8)] : ByteArray }).fst { data := #[(46 : UInt8)] : ByteArray }).length (1 : Nat) fun (i : Nat) => [XT ((splitS (cutSufB s { data := #[(46 : UInt8)] : ByteArray }).fst { data := #[(46 : UInt8)] : ByteArray }).getD i { data := #[] : ByteArray })]) = XV.fz (splitS (cutSufB s { data := #[(46 : UInt8)] : ByteArray }).fst { data := #[(46 : UInt8)] : ByteArray }).length (1 : Nat) fun (i : Nat) => [XT ((splitS (cutSufB s { data := #[(46 : UInt8)] : ByteArray }).fst { data := #[(46 : UInt8)] : ByteArray }).getD i { data := #[] : ByteArray })]) ∧ (↑(splitS (cutSufB s { data := #[(46 : UInt8)] : ByteArray }).fst { data := #[(46 : UInt8)] : ByteArray }).length : Int) = (↑(splitS (cutSufB s { data := #[(46 : UInt8)] : ByteArray }).fst { data := #[(46 : UInt8)] : ByteArray }).length : Int) ∧ (↑x.i : Int) + (1 : Int) = (↑x'.i : Int) ∧ (((9 : TypeId) = (9 : TypeId) ∧ true = true ∧ (1 : Nat) = (1 : Nat)) ∧ x.i + (1 : Nat) = x'.i ∧ ∀ (j : Nat), j < x.i + (1 : Nat) → [XT (bif j.blt x.i then (ascR ((splitS (cutSufB s { data := #[(46 : UInt8)] : ByteArray }).fst { data := #[(46 : UInt8)] : ByteArray }).getD j { data := #[] : ByteArray })).fst else (ascR ((splitS (cutSufB s { data := #[(46 : UInt8)] : ByteArray }).fst { data := #[(46 : UInt8)] : ByteArray }).getD (↑x.i : Int).toNat { data := #[] : ByteArray })).fst)] = [XT ((ascR ((splitS (cutSufB s { data := #[(46 : UInt8)] : ByteArray }).fst { data := #[(46 : UInt8)] : ByteArray }).getD j { data := #[] : ByteArray })).fst)]) ∧ True)) ∧ (decide ((↑x.i : Int) < (↑(splitS (cutSufB s { data := #[(46 : UInt8)] : ByteArray }).fst { data := #[(46 : UInt8)] : ByteArray }).length : Int)) = false → x.i = x.i ∧ (∀ (i : Nat), i < x.i → [XT ((ascR ((splitS (cutSufB s { data := #[(46 : UInt8)] : ByteArray }).fst { data := #[(46 : UInt8)] : ByteArray }).getD i { data := #[] : ByteArray })).fst)] = [XT ((ascR ((splitS (cutSufB s { data := #[(46 : UInt8)] : ByteArray }).fst { data := #[(46 : UInt8)] : ByteArray }).getD i { data := #[] : ByteArray })).fst)]) ∧ x.i ≤ (3000 : Nat) ∧ (∀ (i : Nat), i < x.i → (ascR ((splitS (cutSufB s { data := #[(46 : UInt8)] : ByteArray }).fst { data := #[(46 : UInt8)] : ByteArray }).getD i { data := #[] : ByteArray })).fst.size ≤ (1000000 : Nat)) ∧ ljF (fun (i : Nat) => (ascR ((splitS (cutSufB s { data := #[(46 : UInt8)] : ByteArray }).fst { data := #[(46 : UInt8)] : ByteArray }).getD i { data := #[] : ByteArray })).fst) x.i = (eaR ascR s).fst ∧ (0 : Int) = (eaR ascR s).snd ∧ True)
theorem eaAV_eq (s : ByteArray) : eaAV s = (funC cxea Tryd.f12 (mkSc (eaEn 13 ascR s) (bodyOf Tryd.f12)) [XT s, FN 13] (.tup [XT (eaR ascR s).1, XI (eaR ascR s).2])) := by kernel_rfl
def eaUV (s : ByteArray) : Prop :=
  s.size ≤ (1000000000 : Nat) ∧ (cutSufB s { data := #[(46 : UInt8)] : ByteArray }).fst.size ≤ (1000000000 : Nat) ∧ (∃ (x : (eaI (24 : FuncId) uniR s).σ), (x.i ≤ (splitS (cutSufB s { data := #[(46 : UInt8)] : ByteArray }).fst { data := #[(46 : UInt8)] : ByteArray }).length ∧ eaE uniR (splitS (cutSufB s { data := #[(46 : UInt8)] : ByteArray }).fst { data := #[(46 : UInt8)] : ByteArray }) x.i = (0 : Int)) ∧ true = true ∧ XV.v (AV.p (Value.func (Fn.func (24 : FuncId)) #[] #[])) = XV.v (AV.p (Value.func (Fn.func (24 : FuncId)) #[] #[])) ∧ XV.sl (0 : Nat) (1 : Nat) (0 : Nat) (0 : Nat) = XV.sl (0 : Nat) (1 : Nat) (0 : Nat) x.i ∧ ((XV.fz (splitS (cutSufB s { data := #[(46 : UInt8)] : ByteArray }).fst { data := #[(46 : UInt8)] : ByteArray }).length (1 : Nat) fun (i : Nat) => [XT ((splitS (cutSufB s { data := #[(46 : UInt8)] : ByteArray }).fst { data := #[(46 : UInt8)] : ByteArray }).getD i { data := #[] : ByteArray })]) = XV.fz (splitS (cutSufB s { data := #[(46 : UInt8)] : ByteArray }).fst { data := #[(46 : UInt8)] : ByteArray }).length (1 : Nat) fun (i : Nat) => [XT ((splitS (cutSufB s { data := #[(46 : UInt8)] : ByteArray }).fst { data := #[(46 : UInt8)] : ByteArray }).getD i { data := #[] : ByteArray })]) ∧ (↑(splitS (cutSufB s { data := #[(46 : UInt8)] : ByteArray }).fst { data := #[(46 : UInt8)] : ByteArray }).length : Int) = (↑(splitS (cutSufB s { data := #[(46 : UInt8)] : ByteArray }).fst { data := #[(46 : UInt8)] : ByteArray }).length : Int) ∧ (0 : Int) = (↑x.i : Int) ∧ (((9 : Nat) = (9 : TypeId) ∧ true = true ∧ (1 : Nat) = (1 : Nat)) ∧ (0 : Nat) = x.i ∧ ∀ (j : Nat), j < (0 : Nat) → [] = [XT ((uniR ((splitS (cutSufB s { data := #[(46 : UInt8)] : ByteArray }).fst { data := #[(46 : UInt8)] : ByteArray }).getD j { data := #[] : ByteArray })).fst)]) ∧ True) ∧ ∀ (x : IL), x.i ≤ (splitS (cutSufB s { data := #[(46 : UInt8)] : ByteArray }).fst { data := #[(46 : UInt8)] : ByteArray }).length ∧ eaE uniR (splitS (cutSufB s { data := #[(46 : UInt8)] : ByteArray }).fst { data := #[(46 : UInt8)] : ByteArray }) x.i = (0 : Int) → (decide ((↑x.i : Int) < (↑(splitS (cutSufB s { data := #[(46 : UInt8)] : ByteArray }).fst { data := #[(46 : UInt8)] : ByteArray }).length : Int)) = true → (0 : Int) ≤ (↑x.i : Int) ∧ (↑x.i : Int) < (↑(splitS (cutSufB s { data := #[(46 : UInt8)] : ByteArray }).fst { data := #[(46 : UInt8)] : ByteArray }).length : Int) ∧ ((splitS (cutSufB s { data := #[(46 : UInt8)] : ByteArray }).fst { data := #[(46 : UInt8)] : ByteArray }).getD (↑x.i : Int).toNat { data := #[] : ByteArray }).size ≤ (1000000 : Nat) ∧ (((uniR ((splitS (cutSufB s { data := #[(46 : UInt8)] : ByteArray }).fst { data := #[(46 : UInt8)] : ByteArray }).getD (↑x.i : Int).toNat { data := #[] : ByteArray })).snd != (0 : Int)) = true → { data := #[] : ByteArray } = (eaR uniR s).fst ∧ (uniR ((splitS (cutSufB s { data := #[(46 : UInt8)] : ByteArray }).fst { data := #[(46 : UInt8)] : ByteArray }).getD (↑x.i : Int).toNat { data := #[] : ByteArray })).snd = (eaR uniR s).snd ∧ True) ∧ (((uniR ((splitS (cutSufB s { data := #[(46 : UInt8)] : ByteArray }).fst { data := #[(46 : UInt8)] : ByteArray }).getD (↑x.i : Int).toNat { data := #[] : ByteArray })).snd != (0 : Int)) = false → x.i = x.i ∧ (x.i + (1 : Nat)) * (16 : Nat) ≤ (140737488355328 : Nat) ∧ x.i + (1 : Nat) ≤ (140737488355328 : Nat) ∧ in64 ((↑x.i : Int) + (1 : Int)) ∧ ∃ (x' : (eaI (24 : FuncId) uniR s).σ), (x'.i ≤ (splitS (cutSufB s { data := #[(46 : UInt8)] : ByteArray }).fst { data := #[(46 : UInt8)] : ByteArray }).length ∧ eaE uniR (splitS (cutSufB s { data := #[(46 : UInt8)] : ByteArray }).fst { data := #[(46 : UInt8)] : ByteArray }) x'.i = (0 : Int)) ∧ (splitS (cutSufB s { data := #[(46 : UInt8)] : ByteArray }).fst { data := #[(46 : UInt8)] : ByteArray }).length - x'.i < (splitS (cutSufB s { data := #[(46 : UInt8)] : ByteArray }).fst { data := #[(46 : UInt8)] : ByteArray }).length - x.i ∧ true = true ∧ XV.v (AV.p (Value.func (Fn.func (24 : FuncId)) #[] #[])) = XV.v (AV.p (Value.func (Fn.func (24 : FuncId)) #[] #[])) ∧ XV.sl (0 : Nat) (1 : Nat) (0 : Nat) (x.i + (1 : Nat)) = XV.sl (0 : Nat) (1 : Nat) (0 : Nat) x'.i ∧ ((XV.fz (splitS (cutSufB s { data := #[(46 : UInt8)] : ByteArray }).fst { data := #[(46 : UInt8)] : ByteArray }).length (1 : Nat) fun (i : Nat) => [XT ((splitS (cutSufB s { data := #[(46 : UInt8)] : ByteArray }).fst { data := #[(46 : UInt8)] : ByteArray }).getD i { data := #[] : ByteArray })]) = XV.fz (splitS (cutSufB s { data := #[(46 : UInt8)] : ByteArray }).fst { data := #[(46 : UInt8)] : ByteArray }).length (1 : Nat) fun (i : Nat) => [XT ((splitS (cutSufB s { data := #[(46 : UInt8)] : ByteArray }).fst { data := #[(46 : UInt8)] : ByteArray }).getD i { data := #[] : ByteArray })]) ∧ (↑(splitS (cutSufB s { data := #[(46 : UInt8)] : ByteArray }).fst { data := #[(46 : UInt8)] : ByteArray }).length : Int) = (↑(splitS (cutSufB s { data := #[(46 : UInt8)] : ByteArray }).fst { data := #[(46 : UInt8)] : ByteArray }).length : Int) ∧ (↑x.i : Int) + (1 : Int) = (↑x'.i : Int) ∧ (((9 : TypeId) = (9 : TypeId) ∧ true = true ∧ (1 : Nat) = (1 : Nat)) ∧ x.i + (1 : Nat) = x'.i ∧ ∀ (j : Nat), j < x.i + (1 : Nat) → [XT (bif j.blt x.i then (uniR ((splitS (cutSufB s { data := #[(46 : UInt8)] : ByteArray }).fst { data := #[(46 : UInt8)] : ByteArray }).getD j { data := #[] : ByteArray })).fst else (uniR ((splitS (cutSufB s { data := #[(46 : UInt8)] : ByteArray }).fst { data := #[(46 : UInt8)] : ByteArray }).getD (↑x.i : Int).toNat { data := #[] : ByteArray })).fst)] = [XT ((uniR ((splitS (cutSufB s { data := #[(46 : UInt8)] : ByteArray }).fst { data := #[(46 : UInt8)] : ByteArray }).getD j { data := #[] : ByteArray })).fst)]) ∧ True)) ∧ (decide ((↑x.i : Int) < (↑(splitS (cutSufB s { data := #[(46 : UInt8)] : ByteArray }).fst { data := #[(46 : UInt8)] : ByteArray }).length : Int)) = false → x.i = x.i ∧ (∀ (i : Nat), i < x.i → [XT ((uniR ((splitS (cutSufB s { data := #[(46 : UInt8)] : ByteArray }).fst { data := #[(46 : UInt8)] : ByteArray }).getD i { data := #[] : ByteArray })).fst)] = [XT ((uniR ((splitS (cutSufB s { data := #[(46 : UInt8)] : ByteArray }).fst { data := #[(46 : UInt8)] : ByteArray }).getD i { data := #[] : ByteArray })).fst)]) ∧ x.i ≤ (3000 : Nat) ∧ (∀ (i : Nat), i < x.i → (uniR ((splitS (cutSufB s { data := #[(46 : UInt8)] : ByteArray }).fst { data := #[(46 : UInt8)] : ByteArray }).getD i { data := #[] : ByteArray })).fst.size ≤ (1000000 : Nat)) ∧ ljF (fun (i : Nat) => (uniR ((splitS (cutSufB s { data := #[(46 : UInt8)] : ByteArray }).fst { data := #[(46 : UInt8)] : ByteArray }).getD i { data := #[] : ByteArray })).fst) x.i = (eaR uniR s).fst ∧ (0 : Int) = (eaR uniR s).snd ∧ True)
theorem eaUV_eq (s : ByteArray) : eaUV s = (funC cxea Tryd.f12 (mkSc (eaEn 24 uniR s) (bodyOf Tryd.f12)) [XT s, FN 24] (.tup [XT (eaR uniR s).1, XI (eaR uniR s).2])) := by kernel_rfl
def eachC : CT := fun args => match args with
  | [x, y] => match strO x, fnO y with
    | some s, some f => match Nat.beq f 13, Nat.beq f 24 with
      | true, _ => some ([s.size ≤ 2000], .tup [XT (eaR ascR s).1, XI (eaR ascR s).2])
      | _, true => some ([s.size ≤ 2000], .tup [XT (eaR uniR s).1, XI (eaR uniR s).2])
      | _, _ => none
    | _, _ => none
  | _ => none
def toA (s : ByteArray) : ByteArray × Int := if s.size > 1012 then (⟨#[]⟩, 2) else if (eaR ascR s).2 = 0 ∧ (eaR ascR s).1.size > 253 then (⟨#[]⟩, 2) else eaR ascR s
def toU (s : ByteArray) : ByteArray × Int := if (toA s).2 ≠ 0 ∨ (toA s).1 ≠ s then (⟨#[]⟩, 1) else eaR uniR s
def toAC : CT := C1 dStr (fun _ => []) fun s => .tup [XT (toA s).1, XI (toA s).2]
def toUC : CT := C1 dStr (fun _ => []) fun s => .tup [XT (toU s).1, XI (toU s).2]
def cxt : Cx := { cx0 with C := [(12, eachC), (9, toAC)] }
def toAsV (s : ByteArray) : Prop :=
  (decide ((↑s.size : Int) > (1012 : Int)) = true → { data := #[] : ByteArray } = (toA s).fst ∧ (2 : Int) = (toA s).snd ∧ True) ∧ (decide ((↑s.size : Int) > (1012 : Int)) = false → s.size ≤ (2000 : Nat) ∧ (((eaR ascR s).snd == (0 : Int) && decide ((↑(eaR ascR s).fst.size : Int) > (253 : Int))) = true → { data := #[] : ByteArray } = (toA s).fst ∧ (2 : Int) = (toA s).snd ∧ True) ∧ (((eaR ascR s).snd == (0 : Int) && decide ((↑(eaR ascR s).fst.size : Int) > (253 : Int))) = false → (eaR ascR s).fst = (toA s).fst ∧ (eaR ascR s).snd = (toA s).snd ∧ True))
theorem toAsV_eq (s : ByteArray) : toAsV s = (funC { cx0 with C := [(12, eachC)] } Tryd.f9 .nil [XT s] (.tup [XT (toA s).1, XI (toA s).2])) := by kernel_rfl
theorem cutSuf_size (s p : ByteArray) : (cutSufB s p).1.size ≤ s.size := by
  unfold cutSufB
  rw [mk8_size, size_data, Lib.trimSuffix]
  split
  · rw [List.length_take]; omega
  · exact Nat.le_refl _
theorem labs_size (s : ByteArray) (hs : s.size ≤ 2000) (i : Nat) : ((labs s).getD i ⟨#[]⟩).size ≤ 2000 := by
  rw [List.getD_eq_getElem?_getD]
  cases h : (labs s)[i]? with
  | none => exact Nat.zero_le _
  | some x =>
    have hm : x ∈ labs s := List.mem_of_getElem? h
    have hm : x ∈ splitS (cutSufB s ptT).1 ⟨#[46]⟩ := hm
    rw [splitS_one] at hm
    obtain ⟨y, hy, rfl⟩ := List.mem_map.1 hm
    have h1 := split1_each 46 _ y hy
    have h2 := cutSuf_size s ptT
    rw [← size_data] at h1
    show (mk8 y).size ≤ 2000
    rw [mk8_size]
    omega
theorem eaE_keep (f : ByteArray → ByteArray × Int) (l : List ByteArray) (i : Nat) (h : eaE f l i ≠ 0) : ∀ n, i ≤ n → eaE f l n = eaE f l i
  | 0, hn => by obtain rfl : i = 0 := by omega
                rfl
  | n + 1, hn => by
    by_cases e : i = n + 1
    · rw [e]
    · have ih := eaE_keep f l i h n (by omega)
      rw [eaE, if_pos (by rw [ih]; exact h), ih]
theorem encB_size (o : List Int) : (encB o).size ≤ 4 * o.length := by
  have : ∀ (o : List Int) (a : ByteArray), (o.foldl (fun r n => r ++ Utf8.encode n) a).size ≤ a.size + 4 * o.length := by
    intro o
    induction o with
    | nil => intro a; exact Nat.le_refl _
    | cons x o ih =>
      intro a
      have h1 := ih (a ++ Utf8.encode x)
      have h2 := enc8_size x
      rw [ByteArray.size_append] at h1
      simp only [List.foldl_cons, List.length_cons]
      omega
  have := this o ⟨#[]⟩
  have e : (⟨#[]⟩ : ByteArray).size = 0 := rfl
  unfold encB
  omega
theorem uniR_size (s : ByteArray) : (uniR s).1.size ≤ s.size + 504 := by
  have e : (⟨#[]⟩ : ByteArray).size = 0 := rfl
  have h1 := decR_len (cutPreB s xnT).1
  have h2 := encB_size (decR (cutPreB s xnT).1).1
  rw [uniR]
  split
  · show s.size ≤ _; omega
  · split
    · show (⟨#[]⟩ : ByteArray).size ≤ _; omega
    · rw [uniL]
      split
      · show (⟨#[]⟩ : ByteArray).size ≤ _; omega
      · split
        · show (⟨#[]⟩ : ByteArray).size ≤ _; omega
        · show (encB _).size ≤ _; omega
theorem ascR_size (s : ByteArray) : (ascR s).1.size ≤ s.size + 504 := by
  have e : (⟨#[]⟩ : ByteArray).size = 0 := rfl
  have hl := lowT_size s
  rw [ascR, ascS]
  split
  · split
    · show (⟨#[]⟩ : ByteArray).size ≤ _; omega
    · split
      · show (lowT s).size ≤ _; omega
      · show (lowT s).size ≤ _; omega
  · split
    · show (⟨#[]⟩ : ByteArray).size ≤ _; omega
    · rw [ascL]
      split
      · show (⟨#[]⟩ : ByteArray).size ≤ _; omega
      · split
        · show (⟨#[]⟩ : ByteArray).size ≤ _; omega
        · split
          · show (⟨#[]⟩ : ByteArray).size ≤ _; omega
          · split
            · show (⟨#[]⟩ : ByteArray).size ≤ _; omega
            · rename_i h; show (xnT ++ _).size ≤ _; omega
theorem eaA_v (s : ByteArray) (hs : s.size ≤ 2000) : eaAV s := by
  have h0 := cutSuf_size s ptT
  have hl := splitS_len (cutSufB s ptT).1 46
  have hx : ∀ i, ((labs s).getD i ⟨#[]⟩).size ≤ 2000 := labs_size s hs
  unfold eaAV
  refine ⟨by omega, by show (cutSufB s ptT).1.size ≤ _; omega, ⟨⟨0⟩, ⟨Nat.zero_le _, rfl⟩, rfl, rfl, rfl, rfl, rfl, rfl, ⟨⟨rfl, rfl, rfl⟩, rfl, fun j hj => absurd hj (Nat.not_lt_zero _)⟩, trivial⟩, ?_⟩
  rintro ⟨i⟩ ⟨hi, he⟩
  have hi : i ≤ (labs s).length := hi
  have he : eaE ascR (labs s) i = 0 := he
  have hlen : (labs s).length ≤ 2001 := by show (splitS (cutSufB s ptT).1 ⟨#[46]⟩).length ≤ 2001; omega
  refine ⟨fun h => ?_, fun h => ?_⟩
  · have h : (i : Int) < (labs s).length := of_decide_eq_true h
    refine ⟨by dsimp only; omega, h, Nat.le_trans (hx i) (by decide), fun h1 => ?_, fun h1 => ?_⟩
    · have h1 : ((ascR ((labs s).getD i ⟨#[]⟩)).2 != 0) = true := h1
      have h1 : (ascR ((labs s).getD i ⟨#[]⟩)).2 ≠ 0 := by simpa using h1
      have h2 : eaE ascR (labs s) (i + 1) = (ascR ((labs s).getD i ⟨#[]⟩)).2 := by rw [eaE, if_neg (by rw [he]; simp)]
      have h3 : eaE ascR (labs s) (labs s).length = eaE ascR (labs s) (i + 1) := eaE_keep _ _ (i + 1) (by rw [h2]; exact h1) _ (by omega)
      exact pair_eq (show eaR ascR s = (⟨#[]⟩, (ascR ((labs s).getD i ⟨#[]⟩)).2) by rw [eaR, h3, h2, if_pos h1])
    · have h1 : ((ascR ((labs s).getD i ⟨#[]⟩)).2 != 0) = false := h1
      have h1 : (ascR ((labs s).getD i ⟨#[]⟩)).2 = 0 := by simpa using h1
      refine ⟨rfl, by dsimp only; omega, by dsimp only; omega, by unfold in64; dsimp only; omega, ⟨i + 1⟩, ⟨by show i + 1 ≤ (labs s).length; omega, by show eaE ascR (labs s) (i + 1) = 0; rw [eaE, if_neg (by rw [he]; simp), h1]⟩, by show (labs s).length - (i + 1) < (labs s).length - i; omega, rfl, rfl, rfl, rfl, rfl, rfl, ⟨⟨rfl, rfl, rfl⟩, rfl, fun j hj => ?_⟩, trivial⟩
      dsimp only at hj ⊢
      rw [bltN]
      by_cases e : j < i
      · rw [decide_eq_true e]; rfl
      · obtain rfl : j = i := by omega
        rw [decide_eq_false e]; rfl
  · have h : ¬ (i : Int) < (labs s).length := of_decide_eq_false h
    obtain rfl : i = (labs s).length := by omega
    exact ⟨rfl, fun _ _ => rfl, by dsimp only; omega, fun i _ => Nat.le_trans (ascR_size ((labs s).getD i ⟨#[]⟩)) (by have := hx i; omega), pair_eq (show eaR ascR s = (ljF (fun j => (ascR ((labs s).getD j ⟨#[]⟩)).1) (labs s).length, 0) by rw [eaR, if_neg (by rw [he]; simp)])⟩
theorem eaU_v (s : ByteArray) (hs : s.size ≤ 2000) : eaUV s := by
  have h0 := cutSuf_size s ptT
  have hl := splitS_len (cutSufB s ptT).1 46
  have hx : ∀ i, ((labs s).getD i ⟨#[]⟩).size ≤ 2000 := labs_size s hs
  unfold eaUV
  refine ⟨by omega, by show (cutSufB s ptT).1.size ≤ _; omega, ⟨⟨0⟩, ⟨Nat.zero_le _, rfl⟩, rfl, rfl, rfl, rfl, rfl, rfl, ⟨⟨rfl, rfl, rfl⟩, rfl, fun j hj => absurd hj (Nat.not_lt_zero _)⟩, trivial⟩, ?_⟩
  rintro ⟨i⟩ ⟨hi, he⟩
  have hi : i ≤ (labs s).length := hi
  have he : eaE uniR (labs s) i = 0 := he
  have hlen : (labs s).length ≤ 2001 := by show (splitS (cutSufB s ptT).1 ⟨#[46]⟩).length ≤ 2001; omega
  refine ⟨fun h => ?_, fun h => ?_⟩
  · have h : (i : Int) < (labs s).length := of_decide_eq_true h
    refine ⟨by dsimp only; omega, h, Nat.le_trans (hx i) (by decide), fun h1 => ?_, fun h1 => ?_⟩
    · have h1 : ((uniR ((labs s).getD i ⟨#[]⟩)).2 != 0) = true := h1
      have h1 : (uniR ((labs s).getD i ⟨#[]⟩)).2 ≠ 0 := by simpa using h1
      have h2 : eaE uniR (labs s) (i + 1) = (uniR ((labs s).getD i ⟨#[]⟩)).2 := by rw [eaE, if_neg (by rw [he]; simp)]
      have h3 : eaE uniR (labs s) (labs s).length = eaE uniR (labs s) (i + 1) := eaE_keep _ _ (i + 1) (by rw [h2]; exact h1) _ (by omega)
      exact pair_eq (show eaR uniR s = (⟨#[]⟩, (uniR ((labs s).getD i ⟨#[]⟩)).2) by rw [eaR, h3, h2, if_pos h1])
    · have h1 : ((uniR ((labs s).getD i ⟨#[]⟩)).2 != 0) = false := h1
      have h1 : (uniR ((labs s).getD i ⟨#[]⟩)).2 = 0 := by simpa using h1
      refine ⟨rfl, by dsimp only; omega, by dsimp only; omega, by unfold in64; dsimp only; omega, ⟨i + 1⟩, ⟨by show i + 1 ≤ (labs s).length; omega, by show eaE uniR (labs s) (i + 1) = 0; rw [eaE, if_neg (by rw [he]; simp), h1]⟩, by show (labs s).length - (i + 1) < (labs s).length - i; omega, rfl, rfl, rfl, rfl, rfl, rfl, ⟨⟨rfl, rfl, rfl⟩, rfl, fun j hj => ?_⟩, trivial⟩
      dsimp only at hj ⊢
      rw [bltN]
      by_cases e : j < i
      · rw [decide_eq_true e]; rfl
      · obtain rfl : j = i := by omega
        rw [decide_eq_false e]; rfl
  · have h : ¬ (i : Int) < (labs s).length := of_decide_eq_false h
    obtain rfl : i = (labs s).length := by omega
    exact ⟨rfl, fun _ _ => rfl, by dsimp only; omega, fun i _ => Nat.le_trans (uniR_size ((labs s).getD i ⟨#[]⟩)) (by have := hx i; omega), pair_eq (show eaR uniR s = (ljF (fun j => (uniR ((labs s).getD j ⟨#[]⟩)).1) (labs s).length, 0) by rw [eaR, if_neg (by rw [he]; simp)])⟩
theorem cxea_ok : cxea.ok Tryd.prog := ((((cx0_ok.addC uni_ok).addC asc_ok).addC ljn_ok).addC lsp_ok).addC cutSuf_ok
theorem each_ok : CTok Tryd.prog 12 eachC := ct_ok cxea_ok Tryd.func12 rfl (by decide) fun args cs v hC hc => by
  unfold eachC at hC
  split at hC
  · rename_i x y
    split at hC
    · rename_i s f hs hf
      have e1 := strO_eq hs
      have e2 := fnO_eq hf
      subst e1 e2
      split at hC
      · rename_i hb
        rw [beqN, decide_eq_true_eq] at hb
        subst hb
        simp only [Option.some.injEq, Prod.mk.injEq] at hC
        obtain ⟨rfl, rfl⟩ := hC
        exact ⟨by kernel_rfl, rfl, rfl, exv (eaAV_eq s) (eaA_v s (hc _ (by simp)))⟩
      · rename_i hb _
        rw [beqN, decide_eq_true_eq] at hb
        subst hb
        simp only [Option.some.injEq, Prod.mk.injEq] at hC
        obtain ⟨rfl, rfl⟩ := hC
        exact ⟨by kernel_rfl, rfl, rfl, exv (eaUV_eq s) (eaU_v s (hc _ (by simp)))⟩
      · cases hC
    · cases hC
  · cases hC
theorem toAs_v (s : ByteArray) : toAsV s := by
  unfold toAsV
  refine ⟨fun h => ?_, fun h => ?_⟩
  · have h : (s.size : Int) > 1012 := of_decide_eq_true h
    exact pair_eq (by rw [toA, if_pos (by omega)])
  · have h : ¬ (s.size : Int) > 1012 := of_decide_eq_false h
    refine ⟨by omega, fun h2 => ?_, fun h2 => ?_⟩
    · simp only [Bool.and_eq_true, beq_iff_eq, decide_eq_true_eq] at h2
      exact pair_eq (by rw [toA, if_neg (by omega), if_pos ⟨h2.1, by omega⟩])
    · have h3 : toA s = eaR ascR s := by
        rw [toA, if_neg (by omega), if_neg]
        rintro ⟨a, b⟩
        rw [a] at h2
        simp only [beq_self_eq_true, Bool.true_and, decide_eq_false_iff_not] at h2
        omega
      rw [h3]
      exact ⟨rfl, rfl, trivial⟩
theorem toA_len {s : ByteArray} (h : (toA s).2 = 0) : s.size ≤ 1012 ∧ (toA s).1.size ≤ 253 ∧ toA s = eaR ascR s := by
  rw [toA] at h ⊢
  split
  · rename_i h1; rw [if_pos h1] at h; exact absurd h (by decide)
  · rename_i h1
    rw [if_neg h1] at h
    split
    · rename_i h2; rw [if_pos h2] at h; exact absurd h (by decide)
    · rename_i h2
      rw [if_neg h2] at h
      exact ⟨by omega, by omega, rfl⟩
theorem toA_ok : CTok Tryd.prog 9 toAC := C1_ok (cx0_ok.addC each_ok) Tryd.func9 rfl (by decide) dStr_eq.ok (by kernel_rfl) (fun _ => rfl) fun s hc => exv (toAsV_eq s) (toAs_v s)
theorem cxt_ok : cxt.ok Tryd.prog := (cx0_ok.addC toA_ok).addC each_ok
end Go.Proofs.YthomfpdigmeheaaDoorAv
set_option linter.unusedVariables false
set_option linter.unusedSimpArgs false
set_option maxRecDepth 100000
namespace Go.Proofs.YthomfpdigmeheaaDoorAv
open Go Go.RowKit
def cntL (s : ByteArray) : Int := if s = ptT then 0 else (splitS s ptT).length
def dotC : CT := C1 dStr (fun _ => []) fun s => XI (cntB s ptT)
def cnlC : CT := C1 dStr (fun s => [s.size ≤ 1000000]) fun s => XI (cntL s)
def cxg : Cx := { cx0 with C := [(16, cntC), (18, lspC)] }
def dotV (s : ByteArray) : Prop :=
  (1 : Nat) = (1 : Nat) ∧ cntB s { data := #[(46 : UInt8)] : ByteArray } = cntB s { data := #[(46 : UInt8)] : ByteArray }
theorem dotV_eq (s : ByteArray) : dotV s = (funC cxg Tryd.f11 .nil [XT s] (XI (cntB s ptT))) := by kernel_rfl
theorem dot_v (s : ByteArray) : dotV s := by
  unfold dotV
  exact ⟨rfl, rfl⟩
theorem dot_ok : CTok Tryd.prog 11 dotC := C1_ok ((cx0_ok.addC lsp_ok).addC cnt_ok) Tryd.func11 rfl (by decide) dStr_eq.ok (by kernel_rfl) (fun _ => rfl) fun s hc => exv (dotV_eq s) (dot_v s)
end Go.Proofs.YthomfpdigmeheaaDoorAv
set_option linter.unusedVariables false
set_option linter.unusedSimpArgs false
set_option maxRecDepth 100000
namespace Go.Proofs.YthomfpdigmeheaaDoorAv
open Go Go.RowKit
/-! Labels with points between -/
def join46 : List (List UInt8) → List UInt8
  | [] => []
  | [x] => x
  | x :: y :: r => x ++ 46 :: join46 (y :: r)
theorem join46_cons (x : List UInt8) {r : List (List UInt8)} (h : r ≠ []) : join46 (x :: r) = x ++ 46 :: join46 r := by
  cases r with
  | nil => exact absurd rfl h
  | cons y r => rfl
theorem join46_app {l r : List (List UInt8)} (hl : l ≠ []) (hr : r ≠ []) : join46 (l ++ r) = join46 l ++ 46 :: join46 r := by
  induction l with
  | nil => exact absurd rfl hl
  | cons x l ih =>
    by_cases h : l = []
    · subst h; exact join46_cons x hr
    · rw [List.cons_append, join46_cons x (by simp [h]), ih h, join46_cons x h, List.append_assoc]; rfl
theorem split1_dotc (s : List UInt8) : split1 46 (46 :: s) = [] :: split1 46 s := by rw [split1, if_pos rfl]
theorem split1_oth {c : UInt8} {s y : List UInt8} {t : List (List UInt8)} (h : c ≠ 46) (hs : split1 46 s = y :: t) : split1 46 (c :: s) = (c :: y) :: t := by rw [split1, if_neg h, hs]
theorem split1_ex (s : List UInt8) : ∃ y t, split1 46 s = y :: t := by
  cases h : split1 46 s with
  | nil => exact absurd h (split1_ne 46 s)
  | cons y t => exact ⟨y, t, rfl⟩
theorem split1_app (a b : List UInt8) : split1 46 (a ++ 46 :: b) = split1 46 a ++ split1 46 b := by
  induction a with
  | nil => rw [List.nil_append, split1_dotc]; rfl
  | cons x a ih =>
    rw [List.cons_append]
    by_cases h : x = 46
    · subst h; rw [split1_dotc, split1_dotc, ih]; rfl
    · obtain ⟨y, t, hs⟩ := split1_ex a
      rw [hs] at ih
      rw [split1_oth h ih, split1_oth h hs]; rfl
theorem split1_no {x : List UInt8} (h : ∀ c ∈ x, c ≠ 46) : split1 46 x = [x] := by
  induction x with
  | nil => rfl
  | cons c x ih =>
    exact split1_oth (h c (by simp)) (ih fun d hd => h d (by simp [hd]))
theorem split_join {l : List (List UInt8)} (hl : l ≠ []) (h : ∀ x ∈ l, ∀ c ∈ x, c ≠ 46) : split1 46 (join46 l) = l := by
  induction l with
  | nil => exact absurd rfl hl
  | cons x l ih =>
    by_cases e : l = []
    · subst e; exact split1_no (h x (by simp))
    · rw [join46_cons x e, split1_app, split1_no (h x (by simp)), ih e fun y hy => h y (by simp [hy])]; rfl
theorem join_split (s : List UInt8) : join46 (split1 46 s) = s := by
  induction s with
  | nil => rfl
  | cons c s ih =>
    by_cases h : c = 46
    · subst h; rw [split1_dotc, join46_cons [] (split1_ne 46 s), ih]; rfl
    · obtain ⟨y, t, hs⟩ := split1_ex s
      rw [split1_oth h hs, ← ih, hs]
      cases t with
      | nil => rfl
      | cons z t => rfl
theorem split1_dot (s : List UInt8) : ∀ x ∈ split1 46 s, ∀ c ∈ x, c ≠ 46 := by
  induction s with
  | nil => intro x hx c hc; simp [split1] at hx; subst hx; simp at hc
  | cons d s ih =>
    intro x hx c hc
    by_cases h : d = 46
    · subst h
      rw [split1_dotc] at hx
      rcases List.mem_cons.1 hx with rfl | hx
      · simp at hc
      · exact ih x hx c hc
    · obtain ⟨y, t, hs⟩ := split1_ex s
      rw [split1_oth h hs] at hx
      rw [hs] at ih
      rcases List.mem_cons.1 hx with rfl | hx
      · rcases List.mem_cons.1 hc with rfl | hc
        · exact h
        · exact ih y (by simp) c hc
      · exact ih x (by simp [hx]) c hc
theorem split1_map (f : UInt8 → UInt8) (hf : ∀ c, f c = 46 ↔ c = 46) (s : List UInt8) : split1 46 (s.map f) = (split1 46 s).map (·.map f) := by
  induction s with
  | nil => rfl
  | cons c s ih =>
    rw [List.map_cons]
    by_cases h : c = 46
    · subst h; rw [(hf 46).2 rfl, split1_dotc, split1_dotc, ih]; rfl
    · obtain ⟨y, t, hs⟩ := split1_ex s
      rw [hs] at ih
      rw [split1_oth (fun k => h ((hf c).1 k)) ih, split1_oth h hs]; rfl
theorem join46_map (f : UInt8 → UInt8) (hf : f 46 = 46) (l : List (List UInt8)) : (join46 l).map f = join46 (l.map (·.map f)) := by
  induction l with
  | nil => rfl
  | cons x l ih =>
    by_cases e : l = []
    · subst e; rfl
    · rw [join46_cons x e, List.map_append, List.map_cons, ih, hf, List.map_cons, join46_cons _ (by simp [e])]
/-- Without a point at its end. -/
def trim46 (s : List UInt8) : List UInt8 := Lib.trimSuffix s [46]
theorem trim46_dot (s : List UInt8) : trim46 (s ++ [46]) = s := by
  unfold trim46 Lib.trimSuffix Lib.hasSuffix
  rw [if_pos (by rw [List.isSuffixOf_iff_suffix]; exact List.suffix_append s [46])]
  simp
theorem trim46_no {s : List UInt8} (h : ∀ t, s ≠ t ++ [46]) : trim46 s = s := by
  unfold trim46 Lib.trimSuffix Lib.hasSuffix
  rw [if_neg]
  rw [List.isSuffixOf_iff_suffix]
  rintro ⟨t, ht⟩
  exact h t ht.symm
theorem dot_end {s : List UInt8} {t : List UInt8} (h : s = t ++ [46]) : s ≠ [] ∧ s.getLast? = some 46 := by
  subst h; simp
/-- A name's labels. -/
def LL (s : List UInt8) : List (List UInt8) := split1 46 (trim46 s)
theorem LL_ne (s : List UInt8) : LL s ≠ [] := split1_ne _ _
theorem labs_LL (s : ByteArray) : labs s = (LL s.data.toList).map mk8 := by
  unfold labs LL trim46 ptT
  rw [splitS_one]
  rfl
/-- The first error. -/
def ee {α : Type} (F : α → Int) : List α → Int
  | [] => 0
  | x :: r => if F x ≠ 0 then F x else ee F r
theorem ee_zero {α : Type} {F : α → Int} : ∀ {l : List α}, ee F l = 0 ↔ ∀ x ∈ l, F x = 0
  | [] => by simp [ee]
  | x :: l => by
    rw [ee]
    by_cases h : F x = 0
    · rw [if_neg (by simp [h]), ee_zero]; simp [h]
    · rw [if_pos h]; simp [h]
theorem ee_app {α : Type} (F : α → Int) (l r : List α) : ee F (l ++ r) = if ee F l ≠ 0 then ee F l else ee F r := by
  induction l with
  | nil => simp [ee]
  | cons x l ih =>
    rw [List.cons_append, ee, ee, ih]
    by_cases h : F x = 0
    · simp [h]
    · simp [h]
theorem ee_map {α β : Type} (F : β → Int) (g : α → β) : ∀ l : List α, ee F (l.map g) = ee (fun x => F (g x)) l
  | [] => rfl
  | x :: l => by rw [List.map_cons, ee, ee, ee_map F g l]
theorem ee_congr {α : Type} {F G : α → Int} : ∀ {l : List α}, (∀ x ∈ l, F x = G x) → ee F l = ee G l
  | [], _ => rfl
  | x :: l, h => by rw [ee, ee, h x (by simp), ee_congr fun y hy => h y (by simp [hy])]
theorem ee_mem {α : Type} {F : α → Int} : ∀ {l : List α}, ee F l ≠ 0 → ∃ x ∈ l, ee F l = F x
  | [], h => absurd rfl h
  | x :: l, h => by
    rw [ee] at h ⊢
    by_cases e : F x = 0
    · rw [if_neg (by simp [e])] at h ⊢
      obtain ⟨y, hy, h2⟩ := ee_mem h
      exact ⟨y, by simp [hy], h2⟩
    · rw [if_pos e]; exact ⟨x, by simp, rfl⟩
theorem eaE_ee (f : ByteArray → ByteArray × Int) (l : List ByteArray) : ∀ i, i ≤ l.length → eaE f l i = ee (fun x => (f x).2) (l.take i)
  | 0, _ => rfl
  | i + 1, h => by
    rw [eaE, eaE_ee f l i (by omega), take_snoc' l i ⟨#[]⟩ (by omega), ee_app]
    show _ = if ee _ _ ≠ 0 then _ else if (f (l.getD i ⟨#[]⟩)).2 ≠ 0 then (f (l.getD i ⟨#[]⟩)).2 else 0
    by_cases e : (f (l.getD i ⟨#[]⟩)).2 = 0
    · rw [e]; simp
    · rw [if_pos e]
theorem ljF_join (g : Nat → ByteArray) : ∀ n, (ljF g n).data.toList = join46 ((List.range n).map fun j => (g j).data.toList)
  | 0 => rfl
  | n + 1 => by
    rw [ljF, List.range_succ, List.map_append]
    have ih := ljF_join g n
    by_cases h : 0 < n
    · rw [if_pos h, join46_app (by intro e; have := congrArg List.length e; simp at this; omega) (by simp), ← ih]
      rw [ByteArray.data_append, Array.toList_append, ByteArray.data_append, Array.toList_append, List.append_assoc]
      rfl
    · obtain rfl : n = 0 := by omega
      rw [if_neg h]
      rfl
theorem map_range {α β : Type} (l : List α) (d : α) (f : α → β) : (List.range l.length).map (fun j => f (l.getD j d)) = l.map f := by
  apply List.ext_getElem?
  intro j
  rw [List.getElem?_map, List.getElem?_map]
  by_cases hj : j < l.length
  · rw [List.getElem?_range hj, List.getElem?_eq_getElem hj]
    simp only [Option.map_some]
    rw [List.getD_eq_getElem?_getD, List.getElem?_eq_getElem hj]
    rfl
  · rw [List.getElem?_eq_none (by simpa using hj), List.getElem?_eq_none (by omega)]
    rfl
/-- A label turned, as lists. -/
def lf (f : ByteArray → ByteArray × Int) (x : List UInt8) : List UInt8 × Int := ((f (mk8 x)).1.data.toList, (f (mk8 x)).2)
def eR (F : List UInt8 → List UInt8 × Int) (l : List (List UInt8)) : List UInt8 × Int := if ee (fun x => (F x).2) l ≠ 0 then ([], ee (fun x => (F x).2) l) else (join46 (l.map fun x => (F x).1), 0)
theorem eaR_eR (f : ByteArray → ByteArray × Int) (s : ByteArray) : eaR f s = (mk8 (eR (lf f) (LL s.data.toList)).1, (eR (lf f) (LL s.data.toList)).2) := by
  have h1 : eaE f (labs s) (labs s).length = ee (fun x => (lf f x).2) (LL s.data.toList) := by
    rw [eaE_ee f _ _ (Nat.le_refl _), List.take_length, labs_LL, ee_map]; rfl
  rw [eaR, h1, eR]
  split
  · rfl
  · dsimp only
    congr 1
    rw [← data_mk8 (ljF _ _), ljF_join]
    congr 1
    rw [labs_LL]
    have := map_range ((LL s.data.toList).map mk8) ⟨#[]⟩ fun x => (f x).1.data.toList
    rw [this, List.map_map]
    rfl
def aL : List UInt8 → List UInt8 × Int := lf ascR
def uL : List UInt8 → List UInt8 × Int := lf uniR
def tA (s : List UInt8) : List UInt8 × Int := if s.length > 1012 then ([], 2) else if (eR aL (LL s)).2 = 0 ∧ (eR aL (LL s)).1.length > 253 then ([], 2) else eR aL (LL s)
def tU (s : List UInt8) : List UInt8 × Int := if (tA s).2 ≠ 0 ∨ (tA s).1 ≠ s then ([], 1) else eR uL (LL s)
theorem toA_tA (s : ByteArray) : toA s = (mk8 (tA s.data.toList).1, (tA s.data.toList).2) := by
  rw [toA, tA, eaR_eR, size_data s, show lf ascR = aL from rfl]
  split
  · rfl
  · dsimp only
    rw [mk8_size]
    split
    · rfl
    · rfl
theorem mk8_inj {a b : List UInt8} : mk8 a = mk8 b ↔ a = b := ⟨fun h => congrArg (·.data.toList) h, fun h => by rw [h]⟩
theorem toU_tU (s : ByteArray) : toU s = (mk8 (tU s.data.toList).1, (tU s.data.toList).2) := by
  rw [toU, tU, toA_tA, eaR_eR]
  have : (mk8 (tA s.data.toList).1 ≠ s) ↔ (tA s.data.toList).1 ≠ s.data.toList := by
    have := mk8_inj (a := (tA s.data.toList).1) (b := s.data.toList)
    rw [data_mk8] at this
    exact not_congr this
  dsimp only
  by_cases h : (tA s.data.toList).2 ≠ 0 ∨ (tA s.data.toList).1 ≠ s.data.toList
  · rw [if_pos h, if_pos (by rw [this]; exact h)]; rfl
  · rw [if_neg h, if_neg (by rw [this]; exact h)]; rfl
/-! Bytes -/
def lowc (c : UInt8) : UInt8 := if 65 ≤ c.toNat ∧ c.toNat ≤ 90 then c + 32 else c
theorem lowc_nat (c : UInt8) : (lowc c).toNat = if 65 ≤ c.toNat ∧ c.toNat ≤ 90 then c.toNat + 32 else c.toNat := by
  unfold lowc
  split
  · rw [UInt8.toNat_add]
    have : (32 : UInt8).toNat = 32 := rfl
    omega
  · rfl
theorem lowc_idem (c : UInt8) : lowc (lowc c) = lowc c := by
  apply UInt8.toNat_inj.1
  rw [lowc_nat, lowc_nat]
  by_cases h : 65 ≤ c.toNat ∧ c.toNat ≤ 90
  · rw [if_pos h, if_neg (by omega)]
  · rw [if_neg h, if_neg h]
theorem lowc_dot (c : UInt8) : lowc c = 46 ↔ c = 46 := by
  rw [← UInt8.toNat_inj, ← UInt8.toNat_inj, lowc_nat]
  have : (46 : UInt8).toNat = 46 := rfl
  by_cases h : 65 ≤ c.toNat ∧ c.toNat ≤ 90
  · rw [if_pos h]; omega
  · rw [if_neg h]
theorem sbyte_nat (s : ByteArray) (j : Nat) : sbyte s j = ((s.data.toList.getD j 0).toNat : Int) := rfl
theorem lowT_list (s : ByteArray) : (lowT s).data.toList = s.data.toList.map lowc := by
  have e : (lowT s).data.toList = (List.range s.size).map fun j => UInt8.ofNat (lwB s s.size (0 + j)).toNat := rfl
  rw [e, size_data]
  have := map_range s.data.toList 0 lowc
  rw [← this]
  apply List.map_congr_left
  intro j hj
  have hj : j < s.data.toList.length := List.mem_range.1 hj
  apply UInt8.toNat_inj.1
  rw [Nat.zero_add, lowc_nat, UInt8.toNat_ofNat']
  unfold lwB capC
  rw [sbyte_nat]
  have hb := UInt8.toNat_lt (s.data.toList.getD j 0)
  by_cases h : 65 ≤ (s.data.toList.getD j 0).toNat ∧ (s.data.toList.getD j 0).toNat ≤ 90
  · rw [if_pos h, if_pos ⟨hj, by simp only [Bool.and_eq_true, decide_eq_true_eq]; omega⟩, w8]; omega
  · rw [if_neg h, if_neg]
    · omega
    · rintro ⟨-, h2⟩
      simp only [Bool.and_eq_true, decide_eq_true_eq] at h2
      omega
/-- ASCII alone. -/
def plaL (x : List UInt8) : Bool := x.all fun c => decide (c.toNat < 128)
theorem pla_take (s : ByteArray) : ∀ i, i ≤ s.size → pla s i = plaL (s.data.toList.take i)
  | 0, _ => rfl
  | i + 1, h => by
    rw [size_data] at h
    rw [pla, pla_take s i (by rw [size_data]; omega), take_snoc' _ i 0 h, sbyte_nat]
    unfold plaL
    rw [List.all_append]
    simp only [List.all_cons, List.all_nil, Bool.and_true]
    congr 1
    rw [decide_eq_decide]; omega
theorem pla_list (s : ByteArray) : pla s s.size = plaL s.data.toList := by
  rw [pla_take s _ (Nat.le_refl _), size_data, List.take_length]
def okc (c : UInt8) : Bool := okC c.toNat
theorem okN_take (s : ByteArray) : ∀ i, i ≤ s.size → okN s i = (s.data.toList.take i).all okc
  | 0, _ => rfl
  | i + 1, h => by
    rw [size_data] at h
    rw [okN, okN_take s i (by rw [size_data]; omega), take_snoc' _ i 0 h, sbyte_nat, List.all_append]
    simp only [List.all_cons, List.all_nil, Bool.and_true]
    rfl
/-- May it be a label? -/
def rgtL (x : List UInt8) : Bool := decide (0 < x.length) && decide (x.length ≤ 63) && !(x.getD 0 0 == 45) && !(x.getD (x.length - 1) 0 == 45) && x.all okc
theorem nat_beq (c : UInt8) (n : Nat) (hn : n < 256) : (((c.toNat : Int)) == (n : Int)) = (c == UInt8.ofNat n) := by
  rw [Bool.eq_iff_iff, beq_iff_eq, beq_iff_eq, ← UInt8.toNat_inj, UInt8.toNat_ofNat']
  omega
theorem rgt_list (s : ByteArray) : rgt s = rgtL s.data.toList := by
  unfold rgt rgtL
  rw [okN_take s _ (Nat.le_refl _), size_data, List.take_length]
  have e0 : sbyte s 0 = ((s.data.toList.getD 0 0).toNat : Int) := rfl
  rw [e0]
  by_cases h : 0 < s.data.toList.length
  · have e1 : sbyte s ((s.data.toList.length : Int) - 1) = ((s.data.toList.getD (s.data.toList.length - 1) 0).toNat : Int) := by
      unfold sbyte
      congr 3
      omega
    rw [e1]
    rw [show (45 : Int) = ((45 : Nat) : Int) from rfl, nat_beq _ 45 (by decide), nat_beq _ 45 (by decide)]
    rfl
  · rw [decide_eq_false h]; rfl
theorem okc_rng : ∀ c : UInt8, okc c = true → c.toNat < 128 ∧ c.toNat ≠ 46 := by
  have h : ∀ n : Fin 256, okc (UInt8.ofNat n.val) = true → (UInt8.ofNat n.val).toNat < 128 ∧ (UInt8.ofNat n.val).toNat ≠ 46 := by decide +kernel
  intro c
  have := h ⟨c.toNat, UInt8.toNat_lt c⟩
  simpa using this
theorem okc_low : ∀ c : UInt8, okc (lowc c) = okc c := by
  have h : ∀ n : Fin 256, okc (lowc (UInt8.ofNat n.val)) = okc (UInt8.ofNat n.val) := by decide +kernel
  intro c
  have := h ⟨c.toNat, UInt8.toNat_lt c⟩
  simpa using this
def xnL : List UInt8 := [120, 110, 45, 45]
theorem hasPre_list (s : ByteArray) : hasPreB s xnT = xnL.isPrefixOf s.data.toList := rfl
end Go.Proofs.YthomfpdigmeheaaDoorAv
namespace Go.Proofs.YthomfpdigmeheaaDoorAv
end Go.Proofs.YthomfpdigmeheaaDoorAv
