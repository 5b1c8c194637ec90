/- addr, plain: four reads Print's text back; Parse and Print. -/
import Derived.Test.YtghmlhdlkgjbeaaDoorAdQ
set_option linter.unusedVariables false
set_option linter.unusedSimpArgs false
set_option maxRecDepth 100000
namespace Go.Proofs.YtghmlhdlkgjbeaaDoorAv
open Go Go.RowKit
theorem itoa_b : ∀ x : Fin 256, p10 (itoaB (x.val : Int)) = (0, x.val) ∧ ((46 : UInt8) ∉ (itoaB (x.val : Int)).data.toList ∧ (58 : UInt8) ∉ (itoaB (x.val : Int)).data.toList) ∧ (itoaB (x.val : Int)).data.toList ≠ [] := by decide +kernel
theorem itoa_bb (x : Int) (h : 0 ≤ x ∧ x ≤ 255) : p10 (itoaB x) = (0, x.toNat) ∧ ((46 : UInt8) ∉ (itoaB x).data.toList ∧ (58 : UInt8) ∉ (itoaB x).data.toList) ∧ (itoaB x).data.toList ≠ [] := by
  have := itoa_b ⟨x.toNat, by omega⟩
  have e : (((⟨x.toNat, by omega⟩ : Fin 256).val : Nat) : Int) = x := by
    show ((x.toNat : Nat) : Int) = x
    omega
  rw [e] at this
  exact this
/-- The text of an IPv4 address. -/
theorem prn_four (a : Nat → Int) (h4 : is4 a = true) : (prn a).data.toList = (prF a 0).data.toList ++ 46 :: ((prF a 1).data.toList ++ 46 :: ((prF a 2).data.toList ++ 46 :: (prF a 3).data.toList)) := by
  unfold prn
  rw [if_pos h4]
  show Lib.join [(prF a 0).data.toList, (prF a 1).data.toList, (prF a 2).data.toList, (prF a 3).data.toList] [46] = _
  simp [Lib.join, List.intercalate]
theorem is4_at (a : Nat → Int) (h4 : is4 a = true) : (∀ k, k < 10 → a k = 0) ∧ a 10 = 255 ∧ a 11 = 255 := by
  unfold is4 at h4
  simp only [Bool.and_eq_true, beq_iff_eq, and_true] at h4
  obtain ⟨h0, h1, h2, h3, h4, h5, h6, h7, h8, h9, h10, h11⟩ := h4
  refine ⟨fun k hk => ?_, h10, h11⟩
  match k, hk with
  | 0, _ => exact h0
  | 1, _ => exact h1
  | 2, _ => exact h2
  | 3, _ => exact h3
  | 4, _ => exact h4
  | 5, _ => exact h5
  | 6, _ => exact h6
  | 7, _ => exact h7
  | 8, _ => exact h8
  | 9, _ => exact h9
theorem is4_of (a : Nat → Int) (h : ∀ k, k < 10 → a k = 0) (h10 : a 10 = 255) (h11 : a 11 = 255) : is4 a = true := by
  unfold is4
  rw [h 0 (by omega), h 1 (by omega), h 2 (by omega), h 3 (by omega), h 4 (by omega), h 5 (by omega), h 6 (by omega), h 7 (by omega), h 8 (by omega), h 9 (by omega), h10, h11]
  rfl
theorem wrapB (x : Int) (h : 0 ≤ x ∧ x ≤ 255) : IntKind.u8.wrap ((x.toNat : Nat) : Int) = x := by
  have e : ∀ n : Int, IntKind.u8.wrap n = n % 256 := fun n => by simp [IntKind.wrap, IntKind.bits, IntKind.signed]
  rw [e]
  omega
theorem v4_at (a : Nat → Int) (h4 : is4 a = true) (k : Nat) (hk : k < 16) : v4 (a 12) (a 13) (a 14) (a 15) k = a k := by
  obtain ⟨h, h10, h11⟩ := is4_at a h4
  match k, hk with
  | 0, _ => exact (h 0 (by omega)).symm
  | 1, _ => exact (h 1 (by omega)).symm
  | 2, _ => exact (h 2 (by omega)).symm
  | 3, _ => exact (h 3 (by omega)).symm
  | 4, _ => exact (h 4 (by omega)).symm
  | 5, _ => exact (h 5 (by omega)).symm
  | 6, _ => exact (h 6 (by omega)).symm
  | 7, _ => exact (h 7 (by omega)).symm
  | 8, _ => exact (h 8 (by omega)).symm
  | 9, _ => exact (h 9 (by omega)).symm
  | 10, _ => exact h10.symm
  | 11, _ => exact h11.symm
  | 12, _ => rfl
  | 13, _ => rfl
  | 14, _ => rfl
  | 15, _ => rfl
  | k + 16, hk => exact absurd hk (by omega)
theorem fourP_prn (a : Nat → Int) (ha : b16 a) (h4 : is4 a = true) : fourP (prn a) = [prF a 0, prF a 1, prF a 2, prF a 3] := by
  have i0 := itoa_bb (a 12) (ha 12 (by omega))
  have i1 := itoa_bb (a 13) (ha 13 (by omega))
  have i2 := itoa_bb (a 14) (ha 14 (by omega))
  have i3 := itoa_bb (a 15) (ha 15 (by omega))
  have n0 : (46 : UInt8) ∉ (prF a 0).data.toList := i0.2.1.1
  have n1 : (46 : UInt8) ∉ (prF a 1).data.toList := i1.2.1.1
  have n2 : (46 : UInt8) ∉ (prF a 2).data.toList := i2.2.1.1
  have n3 : (46 : UInt8) ∉ (prF a 3).data.toList := i3.2.1.1
  unfold fourP
  rw [splitS_one, prn_four a h4, sp_at 46 _ _ n0, sp_at 46 _ _ n1, sp_at 46 _ _ n2, sp_no 46 _ n3]
  rfl
theorem four_prn (a : Nat → Int) (ha : b16 a) (h4 : is4 a = true) : (four (prn a)).2 = true ∧ ∀ k, k < 16 → (four (prn a)).1 k = a k := by
  have i0 := itoa_bb (a 12) (ha 12 (by omega))
  have i1 := itoa_bb (a 13) (ha 13 (by omega))
  have i2 := itoa_bb (a 14) (ha 14 (by omega))
  have i3 := itoa_bb (a 15) (ha 15 (by omega))
  have e : four (prn a) = (v4 (a 12) (a 13) (a 14) (a 15), true) := by
    unfold four
    rw [fourP_prn a ha h4]
    have p0 : p10 (prF a 0) = (0, (a 12).toNat) := i0.1
    have p1 : p10 (prF a 1) = (0, (a 13).toNat) := i1.1
    have p2 : p10 (prF a 2) = (0, (a 14).toNat) := i2.1
    have p3 : p10 (prF a 3) = (0, (a 15).toNat) := i3.1
    have ok : fourOk [prF a 0, prF a 1, prF a 2, prF a 3] 4 = true := by
      show ((((true && decide ((p10 (prF a 0)).1 = 0)) && decide ((p10 (prF a 1)).1 = 0)) && decide ((p10 (prF a 2)).1 = 0)) && decide ((p10 (prF a 3)).1 = 0)) = true
      rw [p0, p1, p2, p3]
      rfl
    have f0 : fourF [prF a 0, prF a 1, prF a 2, prF a 3] 4 0 = a 12 := by
      show IntKind.u8.wrap ((p10 (prF a 0)).2 : Int) = _
      rw [p0]; exact wrapB _ (ha 12 (by omega))
    have f1 : fourF [prF a 0, prF a 1, prF a 2, prF a 3] 4 1 = a 13 := by
      show IntKind.u8.wrap ((p10 (prF a 1)).2 : Int) = _
      rw [p1]; exact wrapB _ (ha 13 (by omega))
    have f2 : fourF [prF a 0, prF a 1, prF a 2, prF a 3] 4 2 = a 14 := by
      show IntKind.u8.wrap ((p10 (prF a 2)).2 : Int) = _
      rw [p2]; exact wrapB _ (ha 14 (by omega))
    have f3 : fourF [prF a 0, prF a 1, prF a 2, prF a 3] 4 3 = a 15 := by
      show IntKind.u8.wrap ((p10 (prF a 3)).2 : Int) = _
      rw [p3]; exact wrapB _ (ha 15 (by omega))
    rw [if_pos ⟨rfl, ok⟩, f0, f1, f2, f3]
  rw [e]
  exact ⟨rfl, fun k hk => v4_at a h4 k hk⟩
theorem cjn_nodot : ∀ l, okG l → (46 : UInt8) ∉ cjn l
  | [], _ => by simp [cjn]
  | [x], h => (h x (by simp)).2.2
  | x :: y :: l, h => by
    have h' : okG (y :: l) := fun z hz => h z (List.mem_cons_of_mem _ hz)
    have ih := cjn_nodot (y :: l) h'
    rw [cjn_cons x _ (by simp)]
    intro hm
    rcases List.mem_append.1 hm with hm | hm
    · exact (h x (by simp)).2.2 hm
    · rcases List.mem_cons.1 hm with hm | hm
      · exact absurd hm (by decide)
      · exact ih hm
theorem prn_nodot (a : Nat → Int) (ha : b16 a) (h4 : is4 a = false) : (46 : UInt8) ∉ (prn a).data.toList := by
  rcases prn_six a ha h4 with ⟨h, -⟩ | ⟨b, r, hr, hbr, hz, h⟩
  · rw [h]
    exact cjn_nodot _ (gL_ok a ha 0 8 (by omega))
  · rw [h]
    intro hm
    rcases List.mem_append.1 hm with hm | hm
    · exact cjn_nodot _ (gL_ok a ha 0 b (by omega)) hm
    · rcases List.mem_cons.1 hm with hm | hm
      · exact absurd hm (by decide)
      · rcases List.mem_cons.1 hm with hm | hm
        · exact absurd hm (by decide)
        · exact cjn_nodot _ (gL_ok a ha (b + r) (8 - b - r) (by omega)) hm
theorem four_not (s : ByteArray) (h : (46 : UInt8) ∉ s.data.toList) : (four s).2 = false := by
  unfold four fourP
  rw [splitS_one, sp_no 46 _ h, if_neg]
  rintro ⟨h1, -⟩
  exact absurd h1 (by show ¬ 1 = 4; omega)
/-- What Print writes is read back. -/
theorem parB_prn (a : Nat → Int) (ha : b16 a) : ((four (prn a)).2 || (six (prn a)).2) = true ∧ ∀ k, k < 16 → parB (prn a) k = a k := by
  cases h4 : is4 a with
  | true =>
    obtain ⟨h1, h2⟩ := four_prn a ha h4
    unfold parB
    rw [if_pos h1, h1]
    exact ⟨rfl, h2⟩
  | false =>
    have h0 := four_not _ (prn_nodot a ha h4)
    obtain ⟨h1, h2⟩ := six_prn a ha h4
    unfold parB
    rw [if_neg (by rw [h0]; decide), h1, h0]
    exact ⟨rfl, h2⟩
theorem parOk_prn (a : Nat → Int) (ha : b16 a) : parOk (prn a) = true := by
  obtain ⟨h1, h2⟩ := parB_prn a ha
  unfold parOk
  rw [h1, prn_ext h2, decide_eq_true rfl]
  rfl
theorem parN_prn (a : Nat → Int) (ha : b16 a) : parN (prn a) = 0 := if_pos (parOk_prn a ha)
theorem parA_prn (a : Nat → Int) (ha : b16 a) (k : Nat) (hk : k < 16) : parA (prn a) k = a k := by
  unfold parA
  rw [if_pos (parOk_prn a ha)]
  exact (parB_prn a ha).2 k hk
theorem prn_inj (a b : Nat → Int) (ha : b16 a) (hb : b16 b) (h : prn a = prn b) (k : Nat) (hk : k < 16) : a k = b k := by
  rw [← parA_prn a ha k hk, h, parA_prn b hb k hk]
/-- A text that Parse takes is one that Print writes. -/
theorem parOk_of (s : ByteArray) (h : parOk s = true) : ∃ a, b16 a ∧ prn a = s := by
  unfold parOk at h
  rw [Bool.and_eq_true] at h
  exact ⟨parB s, parB_b s, of_decide_eq_true h.2⟩
theorem cjn_size : ∀ l, (∀ x ∈ l, x.length ≤ 4) → (cjn l).length ≤ 5 * l.length
  | [], _ => Nat.le_refl _
  | [x], h => by
    have := h x (by simp)
    show x.length ≤ 5
    omega
  | x :: y :: l, h => by
    have h1 := h x (by simp)
    have ih := cjn_size (y :: l) (fun z hz => h z (List.mem_cons_of_mem _ hz))
    rw [cjn_cons x _ (by simp), List.length_append, List.length_cons, List.length_cons]
    omega
theorem prn_size (a : Nat → Int) (ha : b16 a) : (prn a).size ≤ 64 := by
  cases h4 : is4 a with
  | true =>
    have s : ∀ j, j < 4 → (prF a j).data.toList.length ≤ 3 := fun j hj => by
      rw [← size_data]
      have h := ha (12 + j) (by omega)
      have := itoaB_byte ⟨(a (12 + j)).toNat, by omega⟩
      rw [show (((⟨(a (12 + j)).toNat, by omega⟩ : Fin 256).val : Nat) : Int) = a (12 + j) by show (((a (12 + j)).toNat : Nat) : Int) = _; omega] at this
      exact this
    have h0 := s 0 (by omega)
    have h1 := s 1 (by omega)
    have h2 := s 2 (by omega)
    have h3 := s 3 (by omega)
    rw [size_data, prn_four a h4]
    simp only [List.length_append, List.length_cons]
    omega
  | false =>
    unfold prn
    rw [if_neg (by rw [h4]; decide)]
    exact prT_size a _ _ 8
end Go.Proofs.YtghmlhdlkgjbeaaDoorAv
