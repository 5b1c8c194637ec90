/- Plain facts of texts: cut, split, replaced at one sign. -/
import Derived.Lib.Replace
set_option linter.unusedVariables false
set_option linter.unusedSimpArgs false
namespace Go.Proofs.YtghmlhdlkgjbeaaDoorAv
open Go

theorem index1_eq (c : UInt8) (l : List UInt8) : Lib.index (c :: l) [c] = 0 := by
  unfold Lib.index
  rw [if_pos (by simp [List.isPrefixOf])]
theorem index1_ne {b c : UInt8} (h : b ≠ c) (l : List UInt8) : Lib.index (b :: l) [c] = if Lib.index l [c] = -1 then -1 else Lib.index l [c] + 1 := by
  conv => lhs; unfold Lib.index
  rw [if_neg (by simp [List.isPrefixOf]; exact fun h' => h h'.symm)]
  simp
theorem index1_nil (c : UInt8) : Lib.index [] [c] = -1 := rfl

/-- What is ahead of the first such sign, and what behind it. -/
def cut1 (c : UInt8) : List UInt8 → List UInt8 × List UInt8 × Bool
  | [] => ([], [], false)
  | b :: l => if b = c then ([], l, true) else (b :: (cut1 c l).1, (cut1 c l).2.1, (cut1 c l).2.2)
theorem cut_one (c : UInt8) : ∀ l : List UInt8, Lib.cut l [c] = cut1 c l
  | [] => rfl
  | b :: l => by
    have ih := cut_one c l
    unfold Lib.cut at ih ⊢
    unfold cut1
    by_cases h : b = c
    · subst h
      rw [index1_eq, if_pos rfl, if_pos (by decide)]
      simp
    · rw [index1_ne h, if_neg h, ← ih]
      have hge := Lib.index_ge l [c]
      by_cases hi : Lib.index l [c] = -1
      · rw [if_pos hi, hi]; simp
      · rw [if_neg hi]
        have h0 : 0 ≤ Lib.index l [c] := by omega
        rw [if_pos (by omega), if_pos h0]
        obtain ⟨i, hi⟩ : ∃ i : Nat, Lib.index l [c] = i := ⟨(Lib.index l [c]).toNat, by omega⟩
        rw [hi]
        have e : ((i : Int) + 1).toNat = i + 1 := by omega
        simp [e]

/-- Cut at each such sign. -/
def split1 (c : UInt8) : List UInt8 → List (List UInt8)
  | [] => [[]]
  | b :: l => if b = c then [] :: split1 c l else match split1 c l with
    | h :: t => (b :: h) :: t
    | [] => [[b]]
theorem split1_ne (c : UInt8) : ∀ l, split1 c l ≠ []
  | [] => by simp [split1]
  | b :: l => by
    unfold split1
    split
    · simp
    · split <;> simp
theorem split_one (c : UInt8) : ∀ l : List UInt8, Lib.split l [c] = split1 c l
  | [] => rfl
  | b :: l => by
    have ih := split_one c l
    unfold Lib.split at ih ⊢
    unfold split1
    by_cases h : b = c
    · subst h
      rw [Lib.count_cons_eq, Nat.add_comm, if_pos rfl, ← ih]
      unfold Lib.splitK
      rw [index1_eq]
      cases hk : Lib.count l [b] with
      | zero => simp [Lib.splitK]
      | succ k => simp [Lib.splitK]
    · rw [Lib.count_cons_ne _ _ _ h, if_neg h, ← ih]
      cases hk : Lib.count l [c] with
      | zero => simp [Lib.splitK]
      | succ k =>
        obtain ⟨i, hi⟩ := Lib.index_of_count (s := l) (old := [c]) (by omega)
        unfold Lib.splitK
        have h1 : (if (i : Int) = -1 then -1 else (i : Int) + 1) = (i : Int) + 1 := if_neg (by omega)
        have e : ((i : Int) + 1).toNat = i + 1 := by omega
        have h2 : ¬ ((i : Int) + 1 = -1) := by omega
        have h3 : ¬ ((i : Int) = -1) := by omega
        rw [index1_ne h, hi, h1]
        simp [e, h2, h3]
def repl1 (c : UInt8) (new : List UInt8) (l : List UInt8) : List UInt8 := l.flatMap fun b => if b = c then new else [b]
theorem repl1_self (c : UInt8) (l : List UInt8) : repl1 c [c] l = l := by
  unfold repl1
  induction l with
  | nil => rfl
  | cons b l ih =>
    rw [List.flatMap_cons, ih]
    split
    · rename_i h; subst h; rfl
    · rfl
theorem replK_one (c : UInt8) (new : List UInt8) : ∀ l : List UInt8, Lib.replaceK [c] new (Lib.count l [c]) l = repl1 c new l
  | [] => rfl
  | b :: l => by
    have ih := replK_one c new l
    by_cases h : b = c
    · subst h
      rw [Lib.count_cons_eq, Nat.add_comm]
      unfold Lib.replaceK
      rw [index1_eq]
      simp only [repl1, List.flatMap_cons, if_true]
      rw [if_neg (by decide)]
      simp only [repl1] at ih
      simpa using ih
    · rw [Lib.count_cons_ne _ _ _ h]
      simp only [repl1, List.flatMap_cons, if_neg h]
      simp only [repl1] at ih
      rw [← ih]
      cases hk : Lib.count l [c] with
      | zero => simp [Lib.replaceK]
      | succ k =>
        obtain ⟨i, hi⟩ := Lib.index_of_count (s := l) (old := [c]) (by omega)
        unfold Lib.replaceK
        have h1 : (if (i : Int) = -1 then -1 else (i : Int) + 1) = (i : Int) + 1 := if_neg (by omega)
        have e : ((i : Int) + 1).toNat = i + 1 := by omega
        have h2 : ¬ ((i : Int) + 1 = -1) := by omega
        have h3 : ¬ ((i : Int) = -1) := by omega
        rw [index1_ne h, hi, h1]
        simp [e, h2, h3]
theorem repl_one (c : UInt8) (new l : List UInt8) : Lib.replaceAll l [c] new = repl1 c new l := by
  unfold Lib.replaceAll Lib.replace
  split
  · rename_i h
    have : [c] = new := by simpa using h
    rw [← this, repl1_self]
  · have : Lib.replaceNum l [c] (-1) = Lib.count l [c] := by simp [Lib.replaceNum]
    rw [this, replK_one]
end Go.Proofs.YtghmlhdlkgjbeaaDoorAv
