/- The library's functions at one sign; rows of texts. -/
import Derived.Test.YtghmlhdlkgjbeaaDoorLbSplit
import Derived.Test.YtghmlhdlkgjbeaaDoorPlS
set_option linter.unusedVariables false
set_option linter.unusedSimpArgs false
namespace Go.Proofs.YtghmlhdlkgjbeaaDoorAv
open Go Go.RowKit
theorem mk8_size (l : List UInt8) : (mk8 l).size = l.length := rfl
theorem mk8_data (l : List UInt8) : (mk8 l).data.toList = l := rfl
theorem data_mk8 (b : ByteArray) : mk8 b.data.toList = b := rfl
theorem size_data (b : ByteArray) : b.size = b.data.toList.length := by rw [Array.length_toList]; rfl
theorem cutB_one (s : ByteArray) (c : UInt8) : cutB s ⟨#[c]⟩ = (mk8 (cut1 c s.data.toList).1, mk8 (cut1 c s.data.toList).2.1, (cut1 c s.data.toList).2.2) := by
  unfold cutB
  rw [show ((⟨#[c]⟩ : ByteArray).data.toList) = [c] from rfl, cut_one]
theorem splitS_one (s : ByteArray) (c : UInt8) : splitS s ⟨#[c]⟩ = (split1 c s.data.toList).map mk8 := by
  unfold splitS
  rw [show ((⟨#[c]⟩ : ByteArray).data.toList) = [c] from rfl, split_one]
theorem replB_one (s n : ByteArray) (c : UInt8) : replB s ⟨#[c]⟩ n = mk8 (repl1 c n.data.toList s.data.toList) := by
  unfold replB
  rw [show ((⟨#[c]⟩ : ByteArray).data.toList) = [c] from rfl, repl_one]
theorem cut1_len (c : UInt8) : ∀ l : List UInt8, (cut1 c l).1.length ≤ l.length ∧ (cut1 c l).2.1.length ≤ l.length
  | [] => by simp [cut1]
  | b :: l => by
    have := cut1_len c l
    unfold cut1
    split <;> simp <;> omega
theorem split1_len (c : UInt8) : ∀ l : List UInt8, (split1 c l).length ≤ l.length + 1
  | [] => by simp [split1]
  | b :: l => by
    have := split1_len c l
    unfold split1
    split
    · simp; omega
    · split
      · rename_i h t heq; rw [heq] at this; simp at this ⊢; omega
      · simp
theorem repl1_len (c : UInt8) (n : List UInt8) (k : Nat) (hn : n.length ≤ k) (hk : 1 ≤ k) : ∀ l : List UInt8, (repl1 c n l).length ≤ k * l.length
  | [] => by simp [repl1]
  | b :: l => by
    have := repl1_len c n k hn hk l
    unfold repl1 at this ⊢
    rw [List.flatMap_cons, List.length_append, List.length_cons, Nat.mul_add, Nat.mul_one]
    split
    · omega
    · rw [List.length_singleton]; omega
theorem cutB_size (s : ByteArray) (c : UInt8) : (cutB s ⟨#[c]⟩).1.size ≤ s.size := by
  rw [cutB_one, size_data s]; exact (cut1_len c _).1
theorem replB_size (s n : ByteArray) (c : UInt8) (k : Nat) (hn : n.size ≤ k) (hk : 1 ≤ k) : (replB s ⟨#[c]⟩ n).size ≤ k * s.size := by
  rw [replB_one, size_data s]; exact repl1_len c _ k (by rw [← size_data]; exact hn) hk _
theorem splitS_len (s : ByteArray) (c : UInt8) : (splitS s ⟨#[c]⟩).length ≤ s.size + 1 := by
  rw [splitS_one, List.length_map, size_data s]; exact split1_len c _
theorem row_app {α : Type} (l : List α) (x d : α) (e : α → List XV) (j : Nat) (h : j < l.length + 1) : (bif j.blt l.length then e (l.getD j d) else e x) = e ((l ++ [x]).getD j d) := by
  rw [bltN]
  by_cases hj : j < l.length
  · rw [decide_eq_true hj, cond_true, List.getD_eq_getElem?_getD, List.getD_eq_getElem?_getD, List.getElem?_append_left hj]
  · have : j = l.length := by omega
    rw [decide_eq_false hj, cond_false, this, List.getD_eq_getElem?_getD, List.getElem?_append_right (Nat.le_refl _)]
    simp
theorem take_snoc' {α : Type} (l : List α) (i : Nat) (d : α) (h : i < l.length) : l.take (i + 1) = l.take i ++ [l.getD i d] := by
  rw [List.take_succ_eq_append_getElem h, List.getD_eq_getElem?_getD, List.getElem?_eq_getElem h]; rfl
theorem split1_each (c : UInt8) : ∀ l : List UInt8, ∀ x ∈ split1 c l, x.length ≤ l.length
  | [], x, hx => by simp [split1] at hx; simp [hx]
  | b :: l, x, hx => by
    have ih := split1_each c l
    unfold split1 at hx
    split at hx
    · rcases List.mem_cons.1 hx with rfl | hx
      · simp
      · have := ih x hx; simp; omega
    · split at hx
      · rename_i h t heq
        rcases List.mem_cons.1 hx with rfl | hx
        · have := ih h (by rw [heq]; simp); simp; omega
        · have := ih x (by rw [heq]; simp [hx]); simp; omega
      · simp at hx; simp [hx]
end Go.Proofs.YtghmlhdlkgjbeaaDoorAv
