/- addr, plain: Parse reads Print's text back. -/
import Derived.Test.YtghmlhdlkgjbeaaDoorAdP
set_option linter.unusedVariables false
set_option linter.unusedSimpArgs false
set_option maxRecDepth 100000
namespace Go.Proofs.YtghmlhdlkgjbeaaDoorAv
open Go Go.RowKit
/-- No two colons stand together, and none at the end. -/
def clc : List UInt8 → Prop
  | [] => True
  | c :: l => (c = 58 → ∃ d l', l = d :: l' ∧ d ≠ 58) ∧ clc l
theorem clc_no : ∀ x : List UInt8, (58 : UInt8) ∉ x → clc x
  | [], _ => trivial
  | c :: l, h => ⟨fun e => absurd (e ▸ List.mem_cons_self) h, clc_no l (fun h2 => h (List.mem_cons_of_mem _ h2))⟩
theorem clc_app : ∀ (x y : List UInt8), (58 : UInt8) ∉ x → x ≠ [] → clc y → (∃ d l', y = d :: l' ∧ d ≠ 58) → clc (x ++ 58 :: y)
  | [], _, _, h, _, _ => absurd rfl h
  | [c], y, h, _, hy, hd => ⟨fun e => absurd (e ▸ List.mem_cons_self) h, fun _ => hd, hy⟩
  | c :: d :: l, y, h, _, hy, hd => ⟨fun e => absurd (e ▸ List.mem_cons_self) h, clc_app (d :: l) y (fun h2 => h (List.mem_cons_of_mem _ h2)) (by simp) hy hd⟩
theorem cjn_head : ∀ l, okG l → l ≠ [] → ∃ d l', cjn l = d :: l' ∧ d ≠ 58
  | [], _, h => absurd rfl h
  | x :: l, ho, _ => by
    have hx := ho x (by simp)
    cases x with
    | nil => exact absurd rfl hx.1
    | cons c x =>
      have hc : c ≠ 58 := fun e => hx.2.1 (e ▸ List.mem_cons_self)
      cases l with
      | nil => exact ⟨c, x, rfl, hc⟩
      | cons y l => exact ⟨c, x ++ 58 :: cjn (y :: l), rfl, hc⟩
theorem clc_cjn : ∀ l, okG l → clc (cjn l)
  | [], _ => trivial
  | [x], h => clc_no x (h x (by simp)).2.1
  | x :: y :: l, h => by
    have h' : okG (y :: l) := fun z hz => h z (List.mem_cons_of_mem _ hz)
    exact clc_app x _ (h x (by simp)).2.1 (h x (by simp)).1 (clc_cjn (y :: l) h') (cjn_head _ h' (by simp))
theorem pre2 (c : UInt8) (l : List UInt8) (h : c = 58 → ∃ d l', l = d :: l' ∧ d ≠ 58) : List.isPrefixOf [58, 58] (c :: l) = false := by
  by_cases e : c = 58
  · obtain ⟨d, l', rfl, hd⟩ := h e
    simp [List.isPrefixOf, hd.symm]
  · have e' : (58 : UInt8) ≠ c := fun h => e h.symm
    simp [List.isPrefixOf, e']
theorem idx_at : ∀ x y : List UInt8, clc x → Lib.index (x ++ 58 :: 58 :: y) [58, 58] = (x.length : Int)
  | [], y, _ => by
    show Lib.index (58 :: 58 :: y) [58, 58] = 0
    unfold Lib.index
    rw [if_pos (by simp [List.isPrefixOf])]
  | c :: x, y, h => by
    have ih := idx_at x y h.2
    rw [List.cons_append]
    unfold Lib.index
    rw [pre2 c _ (fun e => by
      obtain ⟨d, l', rfl, hd⟩ := h.1 e
      exact ⟨d, _, rfl, hd⟩), if_neg (by decide), ih, if_neg (by simp), List.length_cons]
    omega
theorem idx_no : ∀ x : List UInt8, clc x → Lib.index x [58, 58] = -1
  | [], _ => rfl
  | c :: x, h => by
    have ih := idx_no x h.2
    unfold Lib.index
    rw [pre2 c _ h.1, if_neg (by decide), ih]
    rfl
theorem cut_at (x y : List UInt8) (h : clc x) : Lib.cut (x ++ 58 :: 58 :: y) [58, 58] = (x, y, true) := by
  unfold Lib.cut
  rw [idx_at x y h, if_pos (by omega)]
  have e : ((x.length : Int).toNat + [58, 58].length) = x.length + 2 := by
    show _ + 2 = _
    omega
  rw [show ((x.length : Int)).toNat = x.length by omega]
  simp
theorem cut_no (x : List UInt8) (h : clc x) : Lib.cut x [58, 58] = (x, [], false) := by
  unfold Lib.cut
  rw [idx_no x h, if_neg (by omega)]
theorem sp_at (c : UInt8) (y : List UInt8) : ∀ x : List UInt8, c ∉ x → split1 c (x ++ c :: y) = x :: split1 c y
  | [], _ => by
    show split1 c (c :: y) = _
    conv => lhs; unfold split1
    rw [if_pos rfl]
  | b :: x, h => by
    have hb : b ≠ c := fun e => h (e ▸ List.mem_cons_self)
    rw [List.cons_append]
    conv => lhs; unfold split1
    rw [if_neg hb, sp_at c y x (fun h2 => h (List.mem_cons_of_mem _ h2))]
theorem sp_no (c : UInt8) : ∀ x : List UInt8, c ∉ x → split1 c x = [x]
  | [], _ => rfl
  | b :: x, h => by
    have hb : b ≠ c := fun e => h (e ▸ List.mem_cons_self)
    unfold split1
    rw [if_neg hb, sp_no c x (fun h2 => h (List.mem_cons_of_mem _ h2))]
theorem sp_cjn : ∀ l, okG l → l ≠ [] → split1 58 (cjn l) = l
  | [], _, h => absurd rfl h
  | [x], h, _ => sp_no 58 x (h x (by simp)).2.1
  | x :: y :: l, h, _ => by
    have h' : okG (y :: l) := fun z hz => h z (List.mem_cons_of_mem _ hz)
    rw [cjn_cons x _ (by simp), sp_at 58 _ x (h x (by simp)).2.1, sp_cjn (y :: l) h' (by simp)]
theorem side_cjn (l : List (List UInt8)) (h : okG l) : side (mk8 (cjn l)) = l.map mk8 := by
  unfold side
  by_cases e : l = []
  · subst e
    exact if_pos rfl
  · have : mk8 (cjn l) ≠ ⟨#[]⟩ := fun h2 => by
      obtain ⟨d, l', hd, -⟩ := cjn_head l h e
      have := congrArg (·.data.toList) h2
      rw [show (mk8 (cjn l)).data.toList = cjn l from rfl, hd] at this
      cases this
    rw [if_neg this, splitS_one, mk8_data, sp_cjn l h e]
theorem pu_hex (n : Nat) (hn : n < 65536) : pu16 (mk8 (hexL n)) = (0, n) := by
  have h0 : mk8 (hexL n) ≠ ⟨#[]⟩ := fun h2 => by
    have := congrArg (·.data.toList) h2
    exact hexL_ne n this
  unfold pu16
  rw [if_neg h0, mk8_data]
  have st : ∀ (m k : Nat) (l : List UInt8), k < 16 → m * 16 + k < 65536 → pu m (hexd k :: l) = pu (m * 16 + k) l := fun m k l hk hm => by
    rw [pu, (hexd_lt k hk).2.2, if_neg (by omega), if_neg (by omega)]
  by_cases h1 : n < 16
  · rw [hexL_1 n h1, st 0 n _ h1 (by omega), pu]; congr 1; omega
  · by_cases h2 : n < 256
    · rw [hexL_2 n h1 h2, st 0 _ _ (by omega) (by omega), st _ _ _ (by omega) (by omega), pu]; congr 1; omega
    · by_cases h3 : n < 4096
      · rw [hexL_3 n h1 h2 h3, st 0 _ _ (by omega) (by omega), st _ _ _ (by omega) (by omega), st _ _ _ (by omega) (by omega), pu]; congr 1; omega
      · rw [hexL_4 n h1 h2 h3, st 0 _ _ (by omega) (by omega), st _ _ _ (by omega) (by omega), st _ _ _ (by omega) (by omega), st _ _ _ (by omega) (by omega), pu]; congr 1; omega
/-- The pieces as Print wrote them: b groups ahead, m behind. -/
def pLR (a : Nat → Int) (b m : Nat) : LR := ⟨(gL a 0 b).map mk8, (gL a (8 - m) m).map mk8⟩
theorem gL_at (a : Nat → Int) (i m j : Nat) (h : j < m) : pcs ((gL a i m).map mk8) j = mk8 (hexL (gp a (i + j)).toNat) := by
  unfold pcs gL
  rw [List.getD_eq_getElem?_getD, List.map_map, List.getElem?_map, List.getElem?_range h]
  rfl
theorem sixP_p (a : Nat → Int) (b m i : Nat) : sixP (pLR a b m) i = if i < b then i else i + (8 - b - m) := by
  unfold sixP pLR
  simp only [List.length_map, gL_len]
theorem sixQ_p (a : Nat → Int) (b m i : Nat) (hbm : b + m ≤ 8) (hi : i < b + m) : sixQ (pLR a b m) i = mk8 (hexL (gp a (sixP (pLR a b m) i)).toNat) := by
  rw [sixP_p]
  unfold sixQ pLR
  simp only [List.length_map, gL_len]
  by_cases h : i < b
  · rw [if_pos h, if_pos h, gL_at a 0 b i h, Nat.zero_add]
  · rw [if_neg h, if_neg h, gL_at a _ m _ (by omega), show 8 - m + (i - b) = i + (8 - b - m) by omega]
theorem sixP_lt (a : Nat → Int) (b m i : Nat) (hbm : b + m ≤ 8) (hi : i < b + m) : sixP (pLR a b m) i < 8 := by
  rw [sixP_p]
  split <;> omega
theorem sixQ_n (a : Nat → Int) (ha : b16 a) (b m i : Nat) (hbm : b + m ≤ 8) (hi : i < b + m) : pu16 (sixQ (pLR a b m) i) = (0, (gp a (sixP (pLR a b m) i)).toNat) := by
  have hg := gp_b a ha _ (sixP_lt a b m i hbm hi)
  rw [sixQ_p a b m i hbm hi, pu_hex _ (by omega)]
theorem sixOk_p (a : Nat → Int) (ha : b16 a) (b m : Nat) (hbm : b + m ≤ 8) : ∀ n, n ≤ b + m → sixOk (pLR a b m) n = true
  | 0, _ => rfl
  | n + 1, h => by
    rw [sixOk, sixOk_p a ha b m hbm n (by omega), sixQ_n a ha b m n hbm (by omega)]
    rfl
theorem wrap_hi (x y : Int) (hx : 0 ≤ x ∧ x ≤ 255) (hy : 0 ≤ y ∧ y ≤ 255) : IntKind.u8.wrap (((x * 256 + y).toNat : Int).fdiv (2 ^ 8)) = x ∧ IntKind.u8.wrap ((x * 256 + y).toNat : Int) = y := by
  have e : ∀ n : Int, IntKind.u8.wrap n = n % 256 := fun n => by simp [IntKind.wrap, IntKind.bits, IntKind.signed]
  have h0 : (((x * 256 + y).toNat : Nat) : Int) = x * 256 + y := by omega
  rw [e, e, h0]
  refine ⟨?_, by omega⟩
  rw [Int.fdiv_eq_ediv_of_nonneg _ (by decide)]
  have : (2 : Int) ^ 8 = 256 := rfl
  rw [this]
  omega
theorem sixA_p (a : Nat → Int) (ha : b16 a) (b m : Nat) (hbm : b + m ≤ 8) (j : Nat) (hj : j < 8) : ∀ n, n ≤ b + m →
    ((∃ i, i < n ∧ sixP (pLR a b m) i = j) → sixA (pLR a b m) n (2 * j) = a (2 * j) ∧ sixA (pLR a b m) n (2 * j + 1) = a (2 * j + 1)) ∧
    ((¬ ∃ i, i < n ∧ sixP (pLR a b m) i = j) → sixA (pLR a b m) n (2 * j) = 0 ∧ sixA (pLR a b m) n (2 * j + 1) = 0)
  | 0, _ => ⟨fun ⟨i, hi, _⟩ => absurd hi (by omega), fun _ => ⟨rfl, rfl⟩⟩
  | n + 1, h => by
    have ih := sixA_p a ha b m hbm j hj n (by omega)
    have hq := sixQ_n a ha b m n hbm (by omega)
    rw [sixA, hq]
    dsimp only
    by_cases e : sixP (pLR a b m) n = j
    · rw [e]
      have hw := wrap_hi (a (2 * j)) (a (2 * j + 1)) (ha _ (by omega)) (ha _ (by omega))
      refine ⟨fun _ => ?_, fun h2 => absurd ⟨n, by omega, e⟩ h2⟩
      rw [if_neg (by omega), if_pos rfl, if_pos rfl]
      exact hw
    · rw [if_neg (by omega), if_neg (by omega), if_neg (by omega), if_neg (by omega)]
      have ex : (∃ i, i < n + 1 ∧ sixP (pLR a b m) i = j) ↔ ∃ i, i < n ∧ sixP (pLR a b m) i = j := by
        constructor
        · rintro ⟨i, hi, h2⟩
          have : i ≠ n := fun e2 => e (e2 ▸ h2)
          exact ⟨i, by omega, h2⟩
        · rintro ⟨i, hi, h2⟩
          exact ⟨i, by omega, h2⟩
      rw [ex]
      exact ih
theorem gp_zero (a : Nat → Int) (ha : b16 a) (j : Nat) (hj : j < 8) (h : gp a j = 0) : a (2 * j) = 0 ∧ a (2 * j + 1) = 0 := by
  have h1 := ha (2 * j) (by omega)
  have h2 := ha (2 * j + 1) (by omega)
  unfold gp at h
  omega
theorem sixA_all (a : Nat → Int) (ha : b16 a) (b m : Nat) (hbm : b + m ≤ 8) (hz : ∀ j, b ≤ j → j < 8 - m → gp a j = 0) (k : Nat) (hk : k < 16) : sixA (pLR a b m) (b + m) k = a k := by
  have key : ∀ j, j < 8 → sixA (pLR a b m) (b + m) (2 * j) = a (2 * j) ∧ sixA (pLR a b m) (b + m) (2 * j + 1) = a (2 * j + 1) := fun j hj => by
    have h := sixA_p a ha b m hbm j hj (b + m) (Nat.le_refl _)
    by_cases h1 : j < b
    · exact h.1 ⟨j, by omega, by rw [sixP_p, if_pos h1]⟩
    · by_cases h2 : j < 8 - m
      · have hg := gp_zero a ha j hj (hz j (by omega) h2)
        rw [hg.1, hg.2]
        refine h.2 ?_
        rintro ⟨i, hi, e⟩
        rw [sixP_p] at e
        split at e <;> omega
      · exact h.1 ⟨j - (8 - b - m), by omega, by rw [sixP_p, if_neg (by omega)]; omega⟩
  rcases Nat.mod_two_eq_zero_or_one k with h | h
  · have := (key (k / 2) (by omega)).1
    rwa [show 2 * (k / 2) = k by omega] at this
  · have := (key (k / 2) (by omega)).2
    rwa [show 2 * (k / 2) + 1 = k by omega] at this
theorem six_of (a : Nat → Int) (ha : b16 a) (b m : Nat) (hbm : b + m ≤ 8) (hz : ∀ j, b ≤ j → j < 8 - m → gp a j = 0) (s : ByteArray) (hl : sixL s = pLR a b m) (hg : (cutB s ⟨#[58, 58]⟩).2.2 = true ∨ b = 8) :
    (six s).2 = true ∧ ∀ k, k < 16 → (six s).1 k = a k := by
  have l1 : (pLR a b m).l.length = b := by simp [pLR, gL_len]
  have l2 : (pLR a b m).r.length = m := by simp [pLR, gL_len]
  have e : six s = (sixA (pLR a b m) (b + m), true) := by
    unfold six
    rw [hl, l1, l2, if_pos ⟨⟨hbm, hg⟩, sixOk_p a ha b m hbm _ (Nat.le_refl _)⟩]
  rw [e]
  exact ⟨rfl, fun k hk => sixA_all a ha b m hbm hz k hk⟩
theorem six_prn (a : Nat → Int) (ha : b16 a) (h4 : is4 a = false) : (six (prn a)).2 = true ∧ ∀ k, k < 16 → (six (prn a)).1 k = a k := by
  rcases prn_six a ha h4 with ⟨h, -⟩ | ⟨b, r, hr, hbr, hz, h⟩
  · have ho := gL_ok a ha 0 8 (by omega)
    have hc : cutB (prn a) ⟨#[58, 58]⟩ = (mk8 (cjn (gL a 0 8)), mk8 [], false) := by
      unfold cutB
      rw [h, show ((⟨#[58, 58]⟩ : ByteArray).data.toList) = [58, 58] from rfl, cut_no _ (clc_cjn _ ho)]
    refine six_of a ha 8 0 (by omega) (fun j h1 h2 => absurd h2 (by omega)) _ ?_ (.inr rfl)
    unfold sixL pLR
    rw [hc]
    dsimp only
    rw [side_cjn _ ho]
    rfl
  · have ho := gL_ok a ha 0 b (by omega)
    have ho2 := gL_ok a ha (b + r) (8 - b - r) (by omega)
    have hc : cutB (prn a) ⟨#[58, 58]⟩ = (mk8 (cjn (gL a 0 b)), mk8 (cjn (gL a (b + r) (8 - b - r))), true) := by
      unfold cutB
      rw [h, show ((⟨#[58, 58]⟩ : ByteArray).data.toList) = [58, 58] from rfl, cut_at _ _ (clc_cjn _ ho)]
    refine six_of a ha b (8 - b - r) (by omega) (fun j h1 h2 => ?_) _ ?_ (.inl (by rw [hc]))
    · have := hz (j - b) (by omega)
      rwa [show b + (j - b) = j by omega] at this
    · unfold sixL pLR
      rw [hc]
      dsimp only
      rw [side_cjn _ ho, side_cjn _ ho2, show 8 - (8 - b - r) = b + r by omega]
end Go.Proofs.YtghmlhdlkgjbeaaDoorAv
