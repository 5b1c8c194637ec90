/- addr, plain: how Print's text looks; Parse reads it back. -/
import Derived.Test.YtghmlhdlkgjbeaaDoorAdG
set_option linter.unusedVariables false
set_option linter.unusedSimpArgs false
set_option maxRecDepth 100000
namespace Go.Proofs.YtghmlhdlkgjbeaaDoorAv
open Go Go.RowKit
/-- Texts with colons between. -/
def cjn : List (List UInt8) → List UInt8
  | [] => []
  | [x] => x
  | x :: y :: l => x ++ 58 :: cjn (y :: l)
theorem cjn_cons (x : List UInt8) : ∀ l, l ≠ [] → cjn (x :: l) = x ++ 58 :: cjn l
  | [], h => absurd rfl h
  | y :: l, _ => rfl
theorem cjn_snoc (x : List UInt8) : ∀ l, l ≠ [] → cjn (l ++ [x]) = cjn l ++ 58 :: x
  | [], h => absurd rfl h
  | [y], _ => rfl
  | y :: z :: l, _ => by
    rw [List.cons_append, cjn_cons y _ (by simp), cjn_snoc x (z :: l) (by simp), cjn_cons y (z :: l) (by simp), List.append_assoc]
    rfl
/-- The groups of m places from i on, as texts. -/
def gL (a : Nat → Int) (i m : Nat) : List (List UInt8) := (List.range m).map fun j => hexL (gp a (i + j)).toNat
theorem gL_succ (a : Nat → Int) (i m : Nat) : gL a i (m + 1) = gL a i m ++ [hexL (gp a (i + m)).toNat] := by
  unfold gL
  rw [List.range_succ, List.map_append]
  rfl
theorem gL_len (a : Nat → Int) (i m : Nat) : (gL a i m).length = m := by simp [gL]
theorem hexd_r : ∀ k : Fin 16, hexd k.val ≠ 58 ∧ hexd k.val ≠ 46 ∧ hx (hexd k.val) = k.val := by decide
theorem hexd_m (n : Nat) : hexd (n % 16) ≠ 58 ∧ hexd (n % 16) ≠ 46 ∧ hx (hexd (n % 16)) = n % 16 := hexd_r ⟨n % 16, by omega⟩
theorem hexd_lt (n : Nat) (h : n < 16) : hexd n ≠ 58 ∧ hexd n ≠ 46 ∧ hx (hexd n) = n := hexd_r ⟨n, h⟩
theorem hexL_ne (n : Nat) : hexL n ≠ [] := by
  unfold hexL
  split
  · simp
  · split
    · simp
    · split <;> simp
theorem hexL_mem (n : Nat) (hn : n < 65536) (c : UInt8) (hc : c ∈ hexL n) : ∃ k, k < 16 ∧ c = hexd k := by
  unfold hexL at hc
  split at hc
  · exact ⟨n, by omega, by simpa using hc⟩
  · split at hc
    · simp at hc
      rcases hc with rfl | rfl
      · exact ⟨_, by omega, rfl⟩
      · exact ⟨_, by omega, rfl⟩
    · split at hc
      · simp at hc
        rcases hc with rfl | rfl | rfl
        · exact ⟨_, by omega, rfl⟩
        · exact ⟨_, by omega, rfl⟩
        · exact ⟨_, by omega, rfl⟩
      · simp at hc
        rcases hc with rfl | rfl | rfl | rfl
        · exact ⟨_, by omega, rfl⟩
        · exact ⟨_, by omega, rfl⟩
        · exact ⟨_, by omega, rfl⟩
        · exact ⟨_, by omega, rfl⟩
theorem hexL_no (n : Nat) (hn : n < 65536) : (58 : UInt8) ∉ hexL n ∧ (46 : UInt8) ∉ hexL n := by
  constructor
  · intro h
    obtain ⟨k, hk, e⟩ := hexL_mem n hn _ h
    exact (hexd_lt k hk).1 e.symm
  · intro h
    obtain ⟨k, hk, e⟩ := hexL_mem n hn _ h
    exact (hexd_lt k hk).2.1 e.symm
/-- A text's pieces are such as Print writes them: none is empty, none has a colon. -/
def okG (l : List (List UInt8)) : Prop := ∀ x ∈ l, x ≠ [] ∧ (58 : UInt8) ∉ x ∧ (46 : UInt8) ∉ x
theorem gL_ok (a : Nat → Int) (ha : b16 a) (i m : Nat) (h : i + m ≤ 8) : okG (gL a i m) := fun x hx => by
  obtain ⟨j, hj, rfl⟩ := List.mem_map.1 hx
  have := List.mem_range.1 hj
  have hg := gp_b a ha (i + j) (by omega)
  have := hexL_no (gp a (i + j)).toNat (by omega)
  exact ⟨hexL_ne _, this.1, this.2⟩
theorem suf_snoc (p : List UInt8) (c : UInt8) : Lib.hasSuffix (p ++ [c]) [58] = (c == 58) := by
  unfold Lib.hasSuffix
  rw [List.isSuffixOf, List.reverse_append]
  show List.isPrefixOf [58] (c :: p.reverse) = _
  simp [List.isPrefixOf, BEq.comm]
theorem suf_no (p x : List UInt8) (h : x ≠ []) (h2 : (58 : UInt8) ∉ x) : Lib.hasSuffix (p ++ x) [58] = false := by
  have e := List.dropLast_concat_getLast h
  rw [← e, ← List.append_assoc, suf_snoc]
  apply beq_false_of_ne
  intro h3
  exact h2 (h3 ▸ List.getLast_mem h)
theorem cjn_last (l : List (List UInt8)) (x : List UInt8) : ∃ p, cjn (l ++ [x]) = p ++ x := by
  cases l with
  | nil => exact ⟨[], rfl⟩
  | cons y l => exact ⟨cjn (y :: l) ++ [58], by rw [cjn_snoc x _ (by simp), List.append_assoc]; rfl⟩
theorem data_inj {s t : ByteArray} (h : s.data.toList = t.data.toList) : s = t := by
  rw [← data_mk8 s, h, data_mk8]
theorem app_dt (a b : ByteArray) : (a ++ b).data.toList = a.data.toList ++ b.data.toList := by
  rw [ByteArray.data_append, Array.toList_append]
theorem hexB_data (n : Nat) : (hexB n).data.toList = hexL n := rfl
/-- One group more. -/
theorem prT_add (a : Nat → Int) (b r : Int) (k : Nat) (h : (k : Int) < b ∨ b + r ≤ k) (p x : List UInt8) (e : (prT a b r k).data.toList = p ++ x) (hx : x ≠ []) (h2 : (58 : UInt8) ∉ x) :
    (prT a b r (k + 1)).data.toList = p ++ x ++ 58 :: hexL (gp a k).toNat := by
  rw [prT_out a b r k h, if_pos, app_dt, app_dt, e, hexB_data, List.append_assoc]
  · rfl
  · constructor
    · intro h3
      rw [h3] at e
      have := congrArg List.length e
      rw [List.length_append] at this
      have h4 : 0 < x.length := List.length_pos_iff.2 hx
      have h5 : (⟨#[]⟩ : ByteArray).data.toList.length = 0 := rfl
      omega
    · unfold hasSufB
      rw [e]
      exact suf_no p x hx h2
theorem prT_pre (a : Nat → Int) (ha : b16 a) (b r : Int) : ∀ k : Nat, k ≤ 8 → (∀ j : Nat, j < k → (j : Int) < b ∨ b + r ≤ j) → (prT a b r k).data.toList = cjn (gL a 0 k)
  | 0, _, _ => rfl
  | 1, _, h => by
    rw [prT_out a b r 0 (h 0 (by omega)), if_neg (fun e => e.1 rfl), app_dt, hexB_data]
    rfl
  | k + 2, hk, h => by
    have ih := prT_pre a ha b r (k + 1) (by omega) (fun j hj => h j (by omega))
    have ho := gL_ok a ha 0 (k + 1) (by omega) (hexL (gp a (0 + k)).toNat) (by rw [gL_succ]; simp)
    rw [gL_succ, cjn_snoc _ _ (by rw [gL_succ]; simp), ← ih]
    rw [gL_succ] at ih
    obtain ⟨p, hp⟩ := cjn_last (gL a 0 k) (hexL (gp a (0 + k)).toNat)
    rw [hp] at ih
    rw [prT_add a b r (k + 1) (h (k + 1) (by omega)) p _ ih ho.1 ho.2.1, ih, Nat.zero_add, Nat.zero_add]
theorem prT_post (a : Nat → Int) (ha : b16 a) (b r : Nat) (hr : 1 ≤ r) (hb : b + r ≤ 8) : ∀ m, b + r + m ≤ 8 → (prT a b r (b + r + m)).data.toList = cjn (gL a 0 b) ++ 58 :: 58 :: cjn (gL a (b + r) m)
  | 0, _ => by
    obtain ⟨n, rfl⟩ : ∃ n, r = n + 1 := ⟨r - 1, by omega⟩
    rw [Nat.add_zero, show b + (n + 1) = b + n + 1 by omega, prT_in a b (n + 1) n (by omega), app_dt, prT_pre a ha b ((n + 1 : Nat) : Int) b (by omega) (fun j hj => .inl (by omega))]
    rfl
  | 1, h => by
    have ih := prT_post a ha b r hr hb 0 (by omega)
    rw [Nat.add_zero] at ih
    rw [prT_out a b r (b + r) (.inr (by omega)), if_neg, app_dt, ih, hexB_data, List.append_assoc]
    · rfl
    · rintro ⟨-, h2⟩
      unfold hasSufB at h2
      rw [ih] at h2
      have : cjn (gL a 0 b) ++ 58 :: 58 :: cjn (gL a (b + r) 0) = (cjn (gL a 0 b) ++ [58]) ++ [58] := by
        rw [List.append_assoc]; rfl
      rw [this] at h2
      have h3 := suf_snoc (cjn (gL a 0 b) ++ [58]) 58
      have h2 : Lib.hasSuffix (cjn (gL a 0 b) ++ [58] ++ [58]) [58] = false := h2
      rw [h2] at h3
      cases h3
  | m + 2, h => by
    have ih := prT_post a ha b r hr hb (m + 1) (by omega)
    have ho := gL_ok a ha (b + r) (m + 1) (by omega) (hexL (gp a (b + r + m)).toNat) (by rw [gL_succ]; simp)
    rw [gL_succ, cjn_snoc _ _ (by rw [gL_succ]; simp)]
    rw [gL_succ] at ih ⊢
    obtain ⟨p, hp⟩ := cjn_last (gL a (b + r) m) (hexL (gp a (b + r + m)).toNat)
    rw [hp] at ih ⊢
    have e : (prT a b r (b + r + (m + 1))).data.toList = (cjn (gL a 0 b) ++ 58 :: 58 :: p) ++ hexL (gp a (b + r + m)).toNat := by
      rw [ih, List.append_assoc]; rfl
    rw [show b + r + (m + 2) = (b + r + (m + 1)) + 1 by omega, prT_add a b r _ (.inr (by omega)) _ _ e ho.1 ho.2.1]
    simp only [List.append_assoc, List.cons_append]
/-- How the text of an address that is none of IPv4 looks. -/
theorem prn_six (a : Nat → Int) (ha : b16 a) (h4 : is4 a = false) :
    ((prn a).data.toList = cjn (gL a 0 8) ∧ ∀ i, i < 8 → zrun a 9 i ≤ 1) ∨
    ∃ b r, 2 ≤ r ∧ b + r ≤ 8 ∧ (∀ j, j < r → gp a (b + j) = 0) ∧ (prn a).data.toList = cjn (gL a 0 b) ++ 58 :: 58 :: cjn (gL a (b + r) (8 - b - r)) := by
  have e : prn a = prT a (best a 8).1 (best a 8).2 8 := by
    unfold prn
    rw [if_neg (by rw [h4]; decide)]
  have hz : ∀ n, (best a n).1 = -1 ∨ ∃ i : Nat, (best a n).1 = (i : Int) ∧ (best a n).2 = (zrun a 9 i : Int) := fun n => by
    induction n with
    | zero => exact .inl rfl
    | succ n ih =>
      rw [best]
      split
      · exact .inr ⟨n, rfl, rfl⟩
      · exact ih
  have hle : ∀ n i, i < n → (zrun a 9 i : Int) ≤ (best a n).2 := fun n => by
    induction n with
    | zero => exact fun i hi => absurd hi (by omega)
    | succ n ih =>
      intro i hi
      rw [best]
      split
      · rename_i hb
        show _ ≤ (zrun a 9 n : Int)
        by_cases hin : i = n
        · rw [hin]; exact Int.le_refl _
        · have := ih i (by omega); omega
      · rename_i hb
        by_cases hin : i = n
        · rw [hin]; omega
        · exact ih i (by omega)
  have hbi := best_i a 8
  have hz := hz 8
  have hle := hle 8
  generalize best a 8 = q at *
  obtain ⟨b, r⟩ := q
  rcases hbi with ⟨h1, h2⟩ | ⟨⟨h1, h1'⟩, h2, h3⟩
  · left
    have h1 : b = -1 := h1
    have h2 : r = 1 := h2
    subst h1 h2
    dsimp only at e
    rw [e]
    refine ⟨prT_pre a ha (-1) 1 8 (Nat.le_refl _) (fun j hj => .inr (by omega)), fun i hi => ?_⟩
    have h5 : (zrun a 9 i : Int) ≤ 1 := hle i hi
    omega
  · right
    dsimp only at h1 h1' h2 h3 hz
    rcases hz with hm | ⟨b', hb, hr⟩
    · omega
    · have hzr := (zrun_z a 9 b').1
      subst hb hr
      generalize zrun a 9 b' = r at *
      refine ⟨b', r, by omega, by omega, hzr, ?_⟩
      dsimp only at e
      rw [e]
      have := prT_post a ha b' r (by omega) (by omega) (8 - b' - r) (by omega)
      rw [show b' + r + (8 - b' - r) = 8 by omega] at this
      exact this
end Go.Proofs.YtghmlhdlkgjbeaaDoorAv
