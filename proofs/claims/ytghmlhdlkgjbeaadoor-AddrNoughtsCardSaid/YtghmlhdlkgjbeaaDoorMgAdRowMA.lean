/- Own texts, put together: AdU; AdM; AdRowM. -/
import Derived.Test.YtghmlhdlkgjbeaaDoorMgF
set_option linter.unusedVariables false
set_option linter.unusedSimpArgs false
set_option maxRecDepth 100000
namespace Go.Proofs.YtghmlhdlkgjbeaaDoorAv
open Go Go.RowKit
theorem sp_app (c : UInt8) (y : List UInt8) : ∀ x : List UInt8, split1 c (x ++ c :: y) = split1 c x ++ split1 c y
  | [] => by
    show split1 c (c :: y) = _
    conv => lhs; unfold split1
    rw [if_pos rfl]
    rfl
  | b :: x => by
    have ih := sp_app c y x
    have u : ∀ l : List UInt8, split1 c (b :: l) = if b = c then [] :: split1 c l else match split1 c l with | h :: t => (b :: h) :: t | [] => [[b]] := fun _ => rfl
    rw [List.cons_append, u, u]
    by_cases h : b = c
    · rw [if_pos h, if_pos h, ih]; rfl
    · rw [if_neg h, if_neg h, ih]
      cases hs : split1 c x with
      | nil => exact absurd hs (split1_ne c x)
      | cons p q => rfl
/-- A text that Print does not write is told so. -/
theorem parN_not {t : ByteArray} (h : ∀ a, b16 a → prn a ≠ t) : parN t = 5 := by
  refine if_neg fun e => ?_
  obtain ⟨a, ha, e⟩ := parOk_of t e
  exact h a ha e
theorem p4_46 (a : Nat → Int) (h4 : is4 a = true) : (46 : UInt8) ∈ (prn a).data.toList := by
  rw [prn_four a h4]
  simp
theorem p4_58 (a : Nat → Int) (ha : b16 a) (h4 : is4 a = true) : (58 : UInt8) ∉ (prn a).data.toList := by
  have n0 : (58 : UInt8) ∉ (prF a 0).data.toList := (itoa_bb (a 12) (ha 12 (by omega))).2.1.2
  have n1 : (58 : UInt8) ∉ (prF a 1).data.toList := (itoa_bb (a 13) (ha 13 (by omega))).2.1.2
  have n2 : (58 : UInt8) ∉ (prF a 2).data.toList := (itoa_bb (a 14) (ha 14 (by omega))).2.1.2
  have n3 : (58 : UInt8) ∉ (prF a 3).data.toList := (itoa_bb (a 15) (ha 15 (by omega))).2.1.2
  rw [prn_four a h4]
  simp only [List.mem_append, List.mem_cons, not_or]
  exact ⟨n0, by decide, n1, by decide, n2, by decide, n3⟩
theorem p6_58 (a : Nat → Int) (ha : b16 a) (h4 : is4 a = false) : (58 : UInt8) ∈ (prn a).data.toList := by
  rcases prn_six a ha h4 with ⟨h, -⟩ | ⟨b, r, hr, hbr, hz, h⟩
  · rw [h]
    show (58 : UInt8) ∈ cjn (hexL (gp a 0).toNat :: hexL (gp a 1).toNat :: _)
    rw [cjn_cons _ _ (by simp)]
    simp
  · rw [h]
    simp
theorem is4_by46 (a : Nat → Int) (ha : b16 a) (h : (46 : UInt8) ∈ (prn a).data.toList) : is4 a = true := by
  cases h4 : is4 a with
  | true => rfl
  | false => exact absurd h (prn_nodot a ha h4)
theorem is6_by58 (a : Nat → Int) (ha : b16 a) (h : (58 : UInt8) ∈ (prn a).data.toList) : is4 a = false := by
  cases h4 : is4 a with
  | true => exact absurd h (p4_58 a ha h4)
  | false => rfl
theorem sp4_len (a : Nat → Int) (ha : b16 a) (h4 : is4 a = true) : (split1 46 (prn a).data.toList).length = 4 := by
  have := fourP_prn a ha h4
  unfold fourP at this
  rw [splitS_one] at this
  have := congrArg List.length this
  rw [List.length_map] at this
  exact this
/-- .1 behind it. -/
theorem no_dot1 (a : Nat → Int) (ha : b16 a) : parN (prn a ++ ⟨#[46, 49]⟩) = 5 := parN_not fun a' ha' e => by
  have ed : (prn a').data.toList = (prn a).data.toList ++ 46 :: [49] := by rw [e, app_dt]
  have h4' := is4_by46 a' ha' (by rw [ed]; simp)
  cases h4 : is4 a with
  | true =>
    have l1 := sp4_len a ha h4
    have l2 := sp4_len a' ha' h4'
    rw [ed, sp_app, List.length_append, l1] at l2
    have : (split1 46 [49]).length = 1 := by decide
    omega
  | false =>
    refine p4_58 a' ha' h4' ?_
    rw [ed]
    exact List.mem_append_left _ (p6_58 a ha h4)
theorem clc_end : ∀ x : List UInt8, ¬ clc (x ++ [58])
  | [], h => by
    obtain ⟨d, l', h1, -⟩ := h.1 rfl
    cases h1
  | c :: x, h => clc_end x h.2
/-- A colon behind it. -/
theorem no_colon (a : Nat → Int) (ha : b16 a) : parN (prn a ++ ⟨#[58]⟩) = 5 := parN_not fun a' ha' e => by
  have ed : (prn a').data.toList = (prn a).data.toList ++ [58] := by rw [e, app_dt]
  have h6' := is6_by58 a' ha' (by rw [ed]; simp)
  have h6 : is4 a = false := by
    cases h4 : is4 a with
    | false => rfl
    | true => exact absurd (by rw [ed]; exact List.mem_append_left _ (p4_46 a h4)) (prn_nodot a' ha' h6')
  rcases prn_six a ha h6 with ⟨h, -⟩ | ⟨b, r, hr, hbr, -, h⟩
  · have hc := clc_cjn _ (gL_ok a ha 0 8 (by omega))
    rcases prn_six a' ha' h6' with ⟨h', -⟩ | ⟨b', r', hr', hbr', -, h'⟩
    · have hc' := clc_cjn _ (gL_ok a' ha' 0 8 (by omega))
      rw [← h', ed] at hc'
      exact clc_end _ hc'
    · have hy := clc_cjn _ (gL_ok a' ha' (b' + r') (8 - b' - r') (by omega))
      rw [h', h] at ed
      generalize cjn (gL a' (b' + r') (8 - b' - r')) = y at *
      rcases List.eq_nil_or_concat y with rfl | ⟨y', c, rfl⟩
      · have e2 : cjn (gL a' 0 b') ++ [58] = cjn (gL a 0 8) := by
          apply List.append_cancel_right (bs := [58])
          rw [← ed, List.append_assoc]
          rfl
        rw [← e2] at hc
        exact clc_end _ hc
      · have e2 : (cjn (gL a' 0 b') ++ 58 :: 58 :: y') ++ [c] = cjn (gL a 0 8) ++ [58] := by
          rw [← ed, List.append_assoc, List.concat_eq_append]
          rfl
        have e3 := (List.append_inj' e2 rfl).2
        have e3 : c = 58 := by simpa using e3
        rw [e3, List.concat_eq_append] at hy
        exact clc_end _ hy
  · have hx := clc_cjn _ (gL_ok a ha 0 b (by omega))
    have e1 : (prn a').data.toList = cjn (gL a 0 b) ++ 58 :: 58 :: (cjn (gL a (b + r) (8 - b - r)) ++ [58]) := by
      rw [ed, h, List.append_assoc]
      rfl
    have c1 := cut_at _ (cjn (gL a (b + r) (8 - b - r)) ++ [58]) hx
    rw [← e1] at c1
    rcases prn_six a' ha' h6' with ⟨h', -⟩ | ⟨b', r', hr', hbr', -, h'⟩
    · have c2 := cut_no _ (clc_cjn _ (gL_ok a' ha' 0 8 (by omega)))
      rw [← h', c1, Prod.mk.injEq, Prod.mk.injEq] at c2
      exact absurd c2.2.2 (by decide)
    · have c2 := cut_at _ (cjn (gL a' (b' + r') (8 - b' - r'))) (clc_cjn _ (gL_ok a' ha' 0 b' (by omega)))
      have hy := clc_cjn _ (gL_ok a' ha' (b' + r') (8 - b' - r') (by omega))
      rw [← h', c1] at c2
      rw [Prod.mk.injEq, Prod.mk.injEq] at c2
      rw [← c2.2.1] at hy
      exact clc_end _ hy
/-- What stands ahead of the first colon. -/
def fpc (l : List UInt8) : List UInt8 := l.takeWhile (· ≠ 58)
theorem fpc_app (x y : List UInt8) (h : (58 : UInt8) ∉ x) : fpc (x ++ 58 :: y) = x := by
  unfold fpc
  rw [List.takeWhile_append_of_pos (fun c hc => by simpa using fun e : c = 58 => h (e ▸ hc))]
  simp
theorem fpc_all (x : List UInt8) (h : (58 : UInt8) ∉ x) : fpc x = x := by
  have := fpc_app x [] h
  unfold fpc at this ⊢
  rw [List.takeWhile_append] at this
  split at this
  · rename_i hl
    exact (List.takeWhile_prefix _).eq_of_length hl
  · exact this
theorem fpc_cjn (x : List UInt8) (l : List (List UInt8)) (y : List UInt8) (h : (58 : UInt8) ∉ x) : fpc (cjn (x :: l) ++ 58 :: y) = x ∧ fpc (cjn (x :: l)) = x := by
  cases l with
  | nil => exact ⟨fpc_app x y h, fpc_all x h⟩
  | cons z l =>
    rw [cjn_cons x _ (by simp)]
    refine ⟨?_, fpc_app x _ h⟩
    rw [List.append_assoc]
    exact fpc_app x _ h
theorem gL_cons (a : Nat → Int) (m : Nat) : gL a 0 (m + 1) = hexL (gp a 0).toNat :: (gL a 1 m) := by
  unfold gL
  rw [List.range_succ_eq_map, List.map_cons, List.map_map]
  congr 1
  apply List.map_congr_left
  intro j _
  show hexL (gp a (0 + (j + 1))).toNat = _
  rw [show 0 + (j + 1) = 1 + j by omega]
theorem fpc_prn (a : Nat → Int) (ha : b16 a) (h4 : is4 a = false) : fpc (prn a).data.toList = [] ∨ fpc (prn a).data.toList = hexL (gp a 0).toNat := by
  have hn : (58 : UInt8) ∉ hexL (gp a 0).toNat := (hexL_no _ (by have := gp_b a ha 0 (by omega); omega)).1
  rcases prn_six a ha h4 with ⟨h, -⟩ | ⟨b, r, hr, hbr, -, h⟩
  · right
    rw [h, gL_cons a 7]
    exact (fpc_cjn _ _ [] hn).2
  · rw [h]
    cases b with
    | zero => left; rfl
    | succ b =>
      right
      rw [gL_cons a b]
      exact (fpc_cjn _ _ _ hn).1
theorem hexd_nz : ∀ k : Fin 16, k.val ≠ 0 → hexd k.val ≠ 48 := by decide
theorem hexL_nz (n : Nat) (hn : n < 65536) (p : List UInt8) (h : hexL n = 48 :: p) : p = [] := by
  by_cases h1 : n < 16
  · rw [hexL_1 n h1] at h
    simp at h
    exact h.2
  · exfalso
    by_cases h2 : n < 256
    · rw [hexL_2 n h1 h2] at h
      simp only [List.cons.injEq] at h
      exact hexd_nz ⟨n / 16, by omega⟩ (by show n / 16 ≠ 0; omega) h.1
    · by_cases h3 : n < 4096
      · rw [hexL_3 n h1 h2 h3] at h
        simp only [List.cons.injEq] at h
        exact hexd_nz ⟨n / 256, by omega⟩ (by show n / 256 ≠ 0; omega) h.1
      · rw [hexL_4 n h1 h2 h3] at h
        simp only [List.cons.injEq] at h
        exact hexd_nz ⟨n / 4096, by omega⟩ (by show n / 4096 ≠ 0; omega) h.1
theorem itoa_nz : ∀ x : Fin 256, (itoaB (x.val : Int)).data.toList.head? = some 48 → (itoaB (x.val : Int)).data.toList.length = 1 := by decide +kernel
/-- A nought ahead. -/
theorem no_nought (a : Nat → Int) (ha : b16 a) (h : (prn a).data.toList.getD 0 0 ≠ 58) : parN (⟨#[48]⟩ ++ prn a) = 5 := parN_not fun a' ha' e => by
  have ed : (prn a').data.toList = 48 :: (prn a).data.toList := by rw [e, app_dt]; rfl
  cases h4 : is4 a with
  | true =>
    have h4' := is4_by46 a' ha' (by rw [ed]; exact List.mem_cons_of_mem _ (p4_46 a h4))
    have i0 := itoa_bb (a 12) (ha 12 (by omega))
    have n0 : (46 : UInt8) ∉ (prF a 0).data.toList := i0.2.1.1
    have n0' : (46 : UInt8) ∉ (prF a' 0).data.toList := (itoa_bb (a' 12) (ha' 12 (by omega))).2.1.1
    rw [prn_four a h4, prn_four a' h4'] at ed
    have ed : (prF a' 0).data.toList ++ 46 :: ((prF a' 1).data.toList ++ 46 :: ((prF a' 2).data.toList ++ 46 :: (prF a' 3).data.toList)) = (48 :: (prF a 0).data.toList) ++ 46 :: ((prF a 1).data.toList ++ 46 :: ((prF a 2).data.toList ++ 46 :: (prF a 3).data.toList)) := ed
    have s1 := sp_at 46 ((prF a' 1).data.toList ++ 46 :: ((prF a' 2).data.toList ++ 46 :: (prF a' 3).data.toList)) (prF a' 0).data.toList n0'
    rw [ed, sp_at 46 _ _ (by simp only [List.mem_cons, not_or]; exact ⟨by decide, n0⟩)] at s1
    have s2 : 48 :: (prF a 0).data.toList = (prF a' 0).data.toList := (List.cons.inj s1).1
    have h1 := ha' 12 (by omega)
    have key := itoa_nz ⟨(a' 12).toNat, by omega⟩
    have ex : (((⟨(a' 12).toNat, by omega⟩ : Fin 256).val : Nat) : Int) = a' 12 := by
      show (((a' 12).toNat : Nat) : Int) = a' 12
      omega
    rw [ex] at key
    have s3 : (itoaB (a' 12)).data.toList = 48 :: (prF a 0).data.toList := s2.symm
    rw [s3] at key
    have := key rfl
    simp only [List.length_cons] at this
    exact i0.2.2 (List.length_eq_zero_iff.1 (by show (prF a 0).data.toList.length = 0; omega))
  | false =>
    have h6' := is6_by58 a' ha' (by rw [ed]; exact List.mem_cons_of_mem _ (p6_58 a ha h4))
    have f1 : fpc (prn a').data.toList = 48 :: fpc (prn a).data.toList := by
      rw [ed]
      unfold fpc
      rw [List.takeWhile_cons, if_pos (by decide)]
    rcases fpc_prn a' ha' h6' with f2 | f2
    · rw [f1] at f2; cases f2
    · rw [f1] at f2
      have hg := gp_b a' ha' 0 (by omega)
      have hp := hexL_nz _ (by omega) _ f2.symm
      cases hl : (prn a).data.toList with
      | nil =>
        have := p6_58 a ha h4
        rw [hl] at this
        cases this
      | cons c l =>
        rw [hl] at h hp
        have hc : c ≠ 58 := h
        unfold fpc at hp
        rw [List.takeWhile_cons, if_pos (by simpa using hc)] at hp
        cases hp
theorem no_nought2 (a : Nat → Int) (ha : b16 a) (h : (prn a).data.toList.getD 0 0 = 58) (t : ByteArray) (ht : t.data.toList = 48 :: 58 :: (prn a).data.toList) : parN t = 5 := parN_not fun a' ha' e => by
  have ed : (prn a').data.toList = 48 :: 58 :: (prn a).data.toList := by rw [e, ht]
  have h6' := is6_by58 a' ha' (by rw [ed]; simp)
  have h6 : is4 a = false := by
    cases h4 : is4 a with
    | false => rfl
    | true => exact absurd (by rw [ed]; exact List.mem_cons_of_mem _ (List.mem_cons_of_mem _ (p4_46 a h4))) (prn_nodot a' ha' h6')
  have hs : ∃ y, (prn a).data.toList = 58 :: 58 :: y := by
    rcases prn_six a ha h6 with ⟨h', -⟩ | ⟨b, r, hr, hbr, -, h'⟩
    · obtain ⟨d, l', e2, hd⟩ := cjn_head _ (gL_ok a ha 0 8 (by omega)) (by rw [gL_succ]; simp)
      rw [h', e2] at h
      exact absurd h hd
    · cases b with
      | zero => exact ⟨_, h'⟩
      | succ b =>
        obtain ⟨d, l', e2, hd⟩ := cjn_head _ (gL_ok a ha 0 (b + 1) (by omega)) (by rw [gL_succ]; simp)
        rw [h', e2] at h
        exact absurd h hd
  obtain ⟨y, hy⟩ := hs
  have c1 := cut_at [48] (58 :: y) ⟨fun e => absurd e (by decide), trivial⟩
  have e1 : [48] ++ 58 :: 58 :: 58 :: y = (prn a').data.toList := by rw [ed, hy]; rfl
  rw [e1] at c1
  rcases prn_six a' ha' h6' with ⟨h', -⟩ | ⟨b', r', hr', hbr', -, h'⟩
  · have c2 := cut_no _ (clc_cjn _ (gL_ok a' ha' 0 8 (by omega)))
    rw [← h', c1, Prod.mk.injEq, Prod.mk.injEq] at c2
    exact absurd c2.2.2 (by decide)
  · have c2 := cut_at _ (cjn (gL a' (b' + r') (8 - b' - r'))) (clc_cjn _ (gL_ok a' ha' 0 b' (by omega)))
    rw [← h', c1, Prod.mk.injEq, Prod.mk.injEq] at c2
    by_cases hm : gL a' (b' + r') (8 - b' - r') = []
    · rw [hm] at c2
      cases c2.2.1
    · obtain ⟨d, l', e2, hd⟩ := cjn_head _ (gL_ok a' ha' (b' + r') (8 - b' - r') (by omega)) hm
      rw [e2, List.cons.injEq] at c2
      exact hd c2.2.1.1.symm
/-- The signs that Print writes. -/
def pch (c : UInt8) : Prop := c = 46 ∨ c = 58 ∨ ∃ k, k < 16 ∧ c = hexd k
theorem itoa_ch : ∀ x : Fin 256, ∀ c ∈ (itoaB (x.val : Int)).data.toList, (48 : UInt8) ≤ c ∧ c ≤ 57 := by decide +kernel
theorem dig_hexd : ∀ c : Fin 256, 48 ≤ c.val → c.val ≤ 57 → UInt8.ofNat c.val = hexd (c.val - 48) := by decide
theorem dig_pch (c : UInt8) (h : (48 : UInt8) ≤ c ∧ c ≤ 57) : pch c := by
  have h1 : 48 ≤ c.toNat := UInt8.le_iff_toNat_le.1 h.1
  have h2 : c.toNat ≤ 57 := UInt8.le_iff_toNat_le.1 h.2
  have := dig_hexd ⟨c.toNat, by omega⟩ h1 h2
  refine .inr (.inr ⟨c.toNat - 48, by omega, ?_⟩)
  rw [← this]
  simp
theorem itoa_chB (x : Int) (h : 0 ≤ x ∧ x ≤ 255) : ∀ c ∈ (itoaB x).data.toList, (48 : UInt8) ≤ c ∧ c ≤ 57 := by
  have := itoa_ch ⟨x.toNat, by omega⟩
  have e : (((⟨x.toNat, by omega⟩ : Fin 256).val : Nat) : Int) = x := by
    show ((x.toNat : Nat) : Int) = x
    omega
  rw [e] at this
  exact this
theorem cjn_pch : ∀ l : List (List UInt8), (∀ x ∈ l, ∀ c ∈ x, pch c) → ∀ c ∈ cjn l, pch c
  | [], _, c, hc => by cases hc
  | [x], h, c, hc => h x (by simp) c hc
  | x :: y :: l, h, c, hc => by
    rw [cjn_cons x _ (by simp)] at hc
    rcases List.mem_append.1 hc with hc | hc
    · exact h x (by simp) c hc
    · rcases List.mem_cons.1 hc with hc | hc
      · exact .inr (.inl hc)
      · exact cjn_pch (y :: l) (fun z hz => h z (List.mem_cons_of_mem _ hz)) c hc
theorem gL_pch (a : Nat → Int) (ha : b16 a) (i m : Nat) (h : i + m ≤ 8) : ∀ x ∈ gL a i m, ∀ c ∈ x, pch c := fun x hx c hc => by
  obtain ⟨j, hj, rfl⟩ := List.mem_map.1 hx
  have := List.mem_range.1 hj
  have hg := gp_b a ha (i + j) (by omega)
  exact .inr (.inr (hexL_mem _ (by omega) c hc))
theorem prn_pch (a : Nat → Int) (ha : b16 a) : ∀ c ∈ (prn a).data.toList, pch c := fun c hc => by
  cases h4 : is4 a with
  | true =>
    have i : ∀ j, j < 4 → ∀ c ∈ (prF a j).data.toList, pch c := fun j hj c hc => dig_pch c (itoa_chB _ (ha (12 + j) (by omega)) c hc)
    rw [prn_four a h4] at hc
    simp only [List.mem_append, List.mem_cons] at hc
    rcases hc with hc | hc | hc | hc | hc | hc | hc
    · exact i 0 (by omega) c hc
    · exact .inl hc
    · exact i 1 (by omega) c hc
    · exact .inl hc
    · exact i 2 (by omega) c hc
    · exact .inl hc
    · exact i 3 (by omega) c hc
  | false =>
    rcases prn_six a ha h4 with ⟨h, -⟩ | ⟨b, r, hr, hbr, -, h⟩
    · rw [h] at hc
      exact cjn_pch _ (gL_pch a ha 0 8 (by omega)) c hc
    · rw [h] at hc
      rcases List.mem_append.1 hc with hc | hc
      · exact cjn_pch _ (gL_pch a ha 0 b (by omega)) c hc
      · rcases List.mem_cons.1 hc with hc | hc
        · exact .inr (.inl hc)
        · rcases List.mem_cons.1 hc with hc | hc
          · exact .inr (.inl hc)
          · exact cjn_pch _ (gL_pch a ha (b + r) (8 - b - r) (by omega)) c hc
theorem hexd_cap : ∀ k : Fin 16, ¬ (65 ≤ (hexd k.val).toNat ∧ (hexd k.val).toNat ≤ 70) := by decide
theorem pch_cap (c : UInt8) (h : pch c) : ¬ (65 ≤ c.toNat ∧ c.toNat ≤ 70) := by
  rcases h with rfl | rfl | ⟨k, hk, rfl⟩
  · decide
  · decide
  · exact hexd_cap ⟨k, hk⟩
/-- Capitals. -/
theorem no_caps (t : ByteArray) (c : UInt8) (hc : c ∈ t.data.toList) (h : 65 ≤ c.toNat ∧ c.toNat ≤ 70) : parN t = 5 := parN_not fun a ha e => by
  rw [← e] at hc
  exact pch_cap c (prn_pch a ha c hc) h
end Go.Proofs.YtghmlhdlkgjbeaaDoorAv
set_option linter.unusedVariables false
set_option linter.unusedSimpArgs false
set_option maxRecDepth 100000
namespace Go.Proofs.YtghmlhdlkgjbeaaDoorAv
open Go Go.RowKit
/-- A nought ahead. -/
def nzT (s : ByteArray) : ByteArray := if sbyte s 0 = 58 then (⟨#[48]⟩ ++ s.extract 0 1) ++ s else ⟨#[48]⟩ ++ s
def smC (x : Int) : Bool := decide (x ≥ 97) && decide (x ≤ 102)
/-- The text's bytes, those ahead of place i as capitals. -/
def upB (s : ByteArray) (i j : Nat) : Int := if j < i ∧ smC (sbyte s j) = true then IntKind.u8.wrap (sbyte s j - 32) else sbyte s j
def upF (s : ByteArray) : Nat → Bool
  | 0 => false
  | i + 1 => if smC (sbyte s i) = true then true else upF s i
structure IV where
  i : Nat
def nzC (a : Nat → Int) : Inv where
  σ := UX
  S := fun x => ⟨[(2, .ptr 0 0 0 0), (4, XB false), (5, XT (prn a)), (6, XT (nzT (prn a)))], [(0, .one 23 true (adr a).cells)], 1, false, []⟩
  inv := fun x => True
  μ := fun x => 0
def nzR (a : Nat → Int) : List (Nat × XRow) := [(0, .one 23 true (adr a).cells), (1, .one 23 true (adr (parA (nzT (prn a)))).cells), (2, .one 23 true (adr (parA (prn a ++ ⟨#[58]⟩))).cells), (3, .one 23 true (adr (parA (prn a ++ ⟨#[46, 49]⟩))).cells), (4, .one 23 true (adr (parA ⟨#[]⟩)).cells)]
def nzI (a : Nat → Int) : Inv where
  σ := IV
  S := fun x => ⟨[(4, XB false), (8, XI (parN (nzT (prn a)))), (10, XI (parN (prn a ++ ⟨#[58]⟩))), (12, XI (parN (prn a ++ ⟨#[46, 49]⟩))), (14, XI (parN ⟨#[]⟩)), (15, .sl 5 1 0 (prn a).size), (16, XB (upF (prn a) x.i)), (58, XI (prn a).size), (59, XI x.i)],
    nzR a ++ [(5, .vec 5 false (prn a).size 1 fun j => [X8 (upB (prn a) x.i j)])], 6, false, []⟩
  inv := fun x => x.i ≤ (prn a).size
  μ := fun x => (prn a).size - x.i
def nzE (a : Nat → Int) : Env := { loops := [(0, nzI a)], cuts := [(7, nzC a)] }
def noughtsV (a : Nat → Int) (n : Int) : Prop :=
  ((!true) = true → false = true) ∧ ((!true) = false → (b16 fun (i : Nat) => [a (0 : Nat), a (1 : Nat), a (2 : Nat), a (3 : Nat), a (4 : Nat), a (5 : Nat), a (6 : Nat), a (7 : Nat), a (8 : Nat), a (9 : Nat), a (10 : Nat), a (11 : Nat), a (12 : Nat), a (13 : Nat), a (14 : Nat), a (15 : Nat)].getD i (0 : Int)) ∧ (1 : Nat) + (prn fun (i : Nat) => [a (0 : Nat), a (1 : Nat), a (2 : Nat), a (3 : Nat), a (4 : Nat), a (5 : Nat), a (6 : Nat), a (7 : Nat), a (8 : Nat), a (9 : Nat), a (10 : Nat), a (11 : Nat), a (12 : Nat), a (13 : Nat), a (14 : Nat), a (15 : Nat)].getD i (0 : Int)).size ≤ (9223372036854775807 : Nat) ∧ ((0 : Int) ≤ (0 : Int) ∧ (0 : Int) < (↑(prn fun (i : Nat) => [a (0 : Nat), a (1 : Nat), a (2 : Nat), a (3 : Nat), a (4 : Nat), a (5 : Nat), a (6 : Nat), a (7 : Nat), a (8 : Nat), a (9 : Nat), a (10 : Nat), a (11 : Nat), a (12 : Nat), a (13 : Nat), a (14 : Nat), a (15 : Nat)].getD i (0 : Int)).size : Int) ∧ ((sbyte (prn fun (i : Nat) => [a (0 : Nat), a (1 : Nat), a (2 : Nat), a (3 : Nat), a (4 : Nat), a (5 : Nat), a (6 : Nat), a (7 : Nat), a (8 : Nat), a (9 : Nat), a (10 : Nat), a (11 : Nat), a (12 : Nat), a (13 : Nat), a (14 : Nat), a (15 : Nat)].getD i (0 : Int)) (0 : Int) == (58 : Int)) = true → (0 : Int) ≤ (0 : Int) ∧ (0 : Int) ≤ (1 : Int) ∧ (1 : Int) ≤ (↑(prn fun (i : Nat) => [a (0 : Nat), a (1 : Nat), a (2 : Nat), a (3 : Nat), a (4 : Nat), a (5 : Nat), a (6 : Nat), a (7 : Nat), a (8 : Nat), a (9 : Nat), a (10 : Nat), a (11 : Nat), a (12 : Nat), a (13 : Nat), a (14 : Nat), a (15 : Nat)].getD i (0 : Int)).size : Int) ∧ (1 : Nat) + ((prn fun (i : Nat) => [a (0 : Nat), a (1 : Nat), a (2 : Nat), a (3 : Nat), a (4 : Nat), a (5 : Nat), a (6 : Nat), a (7 : Nat), a (8 : Nat), a (9 : Nat), a (10 : Nat), a (11 : Nat), a (12 : Nat), a (13 : Nat), a (14 : Nat), a (15 : Nat)].getD i (0 : Int)).extract ((0 : Nat)) ((1 : Nat))).size ≤ (9223372036854775807 : Nat) ∧ ({ data := #[(48 : UInt8)] : ByteArray } ++ (prn fun (i : Nat) => [a (0 : Nat), a (1 : Nat), a (2 : Nat), a (3 : Nat), a (4 : Nat), a (5 : Nat), a (6 : Nat), a (7 : Nat), a (8 : Nat), a (9 : Nat), a (10 : Nat), a (11 : Nat), a (12 : Nat), a (13 : Nat), a (14 : Nat), a (15 : Nat)].getD i (0 : Int)).extract ((0 : Nat)) ((1 : Nat))).size + (prn fun (i : Nat) => [a (0 : Nat), a (1 : Nat), a (2 : Nat), a (3 : Nat), a (4 : Nat), a (5 : Nat), a (6 : Nat), a (7 : Nat), a (8 : Nat), a (9 : Nat), a (10 : Nat), a (11 : Nat), a (12 : Nat), a (13 : Nat), a (14 : Nat), a (15 : Nat)].getD i (0 : Int)).size ≤ (9223372036854775807 : Nat) ∧ ∃ (x : (nzC a).σ), True ∧ true = true ∧ XV.ptr (0 : Nat) (0 : Nat) (0 : Nat) (0 : Nat) = XV.ptr (0 : Nat) (0 : Nat) (0 : Nat) (0 : Nat) ∧ false = false ∧ (prn fun (i : Nat) => [a (0 : Nat), a (1 : Nat), a (2 : Nat), a (3 : Nat), a (4 : Nat), a (5 : Nat), a (6 : Nat), a (7 : Nat), a (8 : Nat), a (9 : Nat), a (10 : Nat), a (11 : Nat), a (12 : Nat), a (13 : Nat), a (14 : Nat), a (15 : Nat)].getD i (0 : Int)) = prn a ∧ ({ data := #[(48 : UInt8)] : ByteArray } ++ (prn fun (i : Nat) => [a (0 : Nat), a (1 : Nat), a (2 : Nat), a (3 : Nat), a (4 : Nat), a (5 : Nat), a (6 : Nat), a (7 : Nat), a (8 : Nat), a (9 : Nat), a (10 : Nat), a (11 : Nat), a (12 : Nat), a (13 : Nat), a (14 : Nat), a (15 : Nat)].getD i (0 : Int)).extract ((0 : Nat)) ((1 : Nat)) ++ prn fun (i : Nat) => [a (0 : Nat), a (1 : Nat), a (2 : Nat), a (3 : Nat), a (4 : Nat), a (5 : Nat), a (6 : Nat), a (7 : Nat), a (8 : Nat), a (9 : Nat), a (10 : Nat), a (11 : Nat), a (12 : Nat), a (13 : Nat), a (14 : Nat), a (15 : Nat)].getD i (0 : Int)) = nzT (prn a) ∧ (((23 : Nat) = (23 : TypeId) ∧ true = true) ∧ a (0 : Nat) = a (0 : Nat) ∧ a (1 : Nat) = a (1 : Nat) ∧ a (2 : Nat) = a (2 : Nat) ∧ a (3 : Nat) = a (3 : Nat) ∧ a (4 : Nat) = a (4 : Nat) ∧ a (5 : Nat) = a (5 : Nat) ∧ a (6 : Nat) = a (6 : Nat) ∧ a (7 : Nat) = a (7 : Nat) ∧ a (8 : Nat) = a (8 : Nat) ∧ a (9 : Nat) = a (9 : Nat) ∧ a (10 : Nat) = a (10 : Nat) ∧ a (11 : Nat) = a (11 : Nat) ∧ a (12 : Nat) = a (12 : Nat) ∧ a (13 : Nat) = a (13 : Nat) ∧ a (14 : Nat) = a (14 : Nat) ∧ a (15 : Nat) = a (15 : Nat) ∧ True) ∧ True) ∧ ((sbyte (prn fun (i : Nat) => [a (0 : Nat), a (1 : Nat), a (2 : Nat), a (3 : Nat), a (4 : Nat), a (5 : Nat), a (6 : Nat), a (7 : Nat), a (8 : Nat), a (9 : Nat), a (10 : Nat), a (11 : Nat), a (12 : Nat), a (13 : Nat), a (14 : Nat), a (15 : Nat)].getD i (0 : Int)) (0 : Int) == (58 : Int)) = false → ∃ (x : (nzC a).σ), True ∧ true = true ∧ XV.ptr (0 : Nat) (0 : Nat) (0 : Nat) (0 : Nat) = XV.ptr (0 : Nat) (0 : Nat) (0 : Nat) (0 : Nat) ∧ false = false ∧ (prn fun (i : Nat) => [a (0 : Nat), a (1 : Nat), a (2 : Nat), a (3 : Nat), a (4 : Nat), a (5 : Nat), a (6 : Nat), a (7 : Nat), a (8 : Nat), a (9 : Nat), a (10 : Nat), a (11 : Nat), a (12 : Nat), a (13 : Nat), a (14 : Nat), a (15 : Nat)].getD i (0 : Int)) = prn a ∧ ({ data := #[(48 : UInt8)] : ByteArray } ++ prn fun (i : Nat) => [a (0 : Nat), a (1 : Nat), a (2 : Nat), a (3 : Nat), a (4 : Nat), a (5 : Nat), a (6 : Nat), a (7 : Nat), a (8 : Nat), a (9 : Nat), a (10 : Nat), a (11 : Nat), a (12 : Nat), a (13 : Nat), a (14 : Nat), a (15 : Nat)].getD i (0 : Int)) = nzT (prn a) ∧ (((23 : Nat) = (23 : TypeId) ∧ true = true) ∧ a (0 : Nat) = a (0 : Nat) ∧ a (1 : Nat) = a (1 : Nat) ∧ a (2 : Nat) = a (2 : Nat) ∧ a (3 : Nat) = a (3 : Nat) ∧ a (4 : Nat) = a (4 : Nat) ∧ a (5 : Nat) = a (5 : Nat) ∧ a (6 : Nat) = a (6 : Nat) ∧ a (7 : Nat) = a (7 : Nat) ∧ a (8 : Nat) = a (8 : Nat) ∧ a (9 : Nat) = a (9 : Nat) ∧ a (10 : Nat) = a (10 : Nat) ∧ a (11 : Nat) = a (11 : Nat) ∧ a (12 : Nat) = a (12 : Nat) ∧ a (13 : Nat) = a (13 : Nat) ∧ a (14 : Nat) = a (14 : Nat) ∧ a (15 : Nat) = a (15 : Nat) ∧ True) ∧ True)) ∧ ∀ (x : UX), True → (nzT (prn a)).size ≤ (1000000 : Nat) ∧ (prn a).size + (1 : Nat) ≤ (9223372036854775807 : Nat) ∧ (prn a ++ { data := #[(58 : UInt8)] : ByteArray }).size ≤ (1000000 : Nat) ∧ (prn a).size + (2 : Nat) ≤ (9223372036854775807 : Nat) ∧ (prn a ++ { data := #[(46 : UInt8), (49 : UInt8)] : ByteArray }).size ≤ (1000000 : Nat) ∧ (0 : Nat) ≤ (1000000 : Nat) ∧ (∃ (x : (nzI a).σ), x.i.le (prn a).size ∧ true = true ∧ false = false ∧ parN (nzT (prn a)) = parN (nzT (prn a)) ∧ parN (prn a ++ { data := #[(58 : UInt8)] : ByteArray }) = parN (prn a ++ { data := #[(58 : UInt8)] : ByteArray }) ∧ parN (prn a ++ { data := #[(46 : UInt8), (49 : UInt8)] : ByteArray }) = parN (prn a ++ { data := #[(46 : UInt8), (49 : UInt8)] : ByteArray }) ∧ parN { data := #[] : ByteArray } = parN { data := #[] : ByteArray } ∧ XV.sl ((1 : Nat) + (1 : Nat) + (1 : Nat) + (1 : Nat) + (1 : Nat)) (1 : Nat) (0 : Nat) (prn a).size = XV.sl (5 : Nat) (1 : Nat) (0 : Nat) (prn a).size ∧ false = upF (prn a) x.i ∧ (↑(prn a).size : Int) = (↑(prn a).size : Int) ∧ (0 : Int) = (↑x.i : Int) ∧ (((23 : TypeId) = (23 : TypeId) ∧ true = true) ∧ a (0 : Nat) = a (0 : Nat) ∧ a (1 : Nat) = a (1 : Nat) ∧ a (2 : Nat) = a (2 : Nat) ∧ a (3 : Nat) = a (3 : Nat) ∧ a (4 : Nat) = a (4 : Nat) ∧ a (5 : Nat) = a (5 : Nat) ∧ a (6 : Nat) = a (6 : Nat) ∧ a (7 : Nat) = a (7 : Nat) ∧ a (8 : Nat) = a (8 : Nat) ∧ a (9 : Nat) = a (9 : Nat) ∧ a (10 : Nat) = a (10 : Nat) ∧ a (11 : Nat) = a (11 : Nat) ∧ a (12 : Nat) = a (12 : Nat) ∧ a (13 : Nat) = a (13 : Nat) ∧ a (14 : Nat) = a (14 : Nat) ∧ a (15 : Nat) = a (15 : Nat) ∧ True) ∧ (((23 : Nat) = (23 : TypeId) ∧ true = true) ∧ parA (nzT (prn a)) (0 : Nat) = parA (nzT (prn a)) (0 : Nat) ∧ parA (nzT (prn a)) (1 : Nat) = parA (nzT (prn a)) (1 : Nat) ∧ parA (nzT (prn a)) (2 : Nat) = parA (nzT (prn a)) (2 : Nat) ∧ parA (nzT (prn a)) (3 : Nat) = parA (nzT (prn a)) (3 : Nat) ∧ parA (nzT (prn a)) (4 : Nat) = parA (nzT (prn a)) (4 : Nat) ∧ parA (nzT (prn a)) (5 : Nat) = parA (nzT (prn a)) (5 : Nat) ∧ parA (nzT (prn a)) (6 : Nat) = parA (nzT (prn a)) (6 : Nat) ∧ parA (nzT (prn a)) (7 : Nat) = parA (nzT (prn a)) (7 : Nat) ∧ parA (nzT (prn a)) (8 : Nat) = parA (nzT (prn a)) (8 : Nat) ∧ parA (nzT (prn a)) (9 : Nat) = parA (nzT (prn a)) (9 : Nat) ∧ parA (nzT (prn a)) (10 : Nat) = parA (nzT (prn a)) (10 : Nat) ∧ parA (nzT (prn a)) (11 : Nat) = parA (nzT (prn a)) (11 : Nat) ∧ parA (nzT (prn a)) (12 : Nat) = parA (nzT (prn a)) (12 : Nat) ∧ parA (nzT (prn a)) (13 : Nat) = parA (nzT (prn a)) (13 : Nat) ∧ parA (nzT (prn a)) (14 : Nat) = parA (nzT (prn a)) (14 : Nat) ∧ parA (nzT (prn a)) (15 : Nat) = parA (nzT (prn a)) (15 : Nat) ∧ True) ∧ (((23 : Nat) = (23 : TypeId) ∧ true = true) ∧ parA (prn a ++ { data := #[(58 : UInt8)] : ByteArray }) (0 : Nat) = parA (prn a ++ { data := #[(58 : UInt8)] : ByteArray }) (0 : Nat) ∧ parA (prn a ++ { data := #[(58 : UInt8)] : ByteArray }) (1 : Nat) = parA (prn a ++ { data := #[(58 : UInt8)] : ByteArray }) (1 : Nat) ∧ parA (prn a ++ { data := #[(58 : UInt8)] : ByteArray }) (2 : Nat) = parA (prn a ++ { data := #[(58 : UInt8)] : ByteArray }) (2 : Nat) ∧ parA (prn a ++ { data := #[(58 : UInt8)] : ByteArray }) (3 : Nat) = parA (prn a ++ { data := #[(58 : UInt8)] : ByteArray }) (3 : Nat) ∧ parA (prn a ++ { data := #[(58 : UInt8)] : ByteArray }) (4 : Nat) = parA (prn a ++ { data := #[(58 : UInt8)] : ByteArray }) (4 : Nat) ∧ parA (prn a ++ { data := #[(58 : UInt8)] : ByteArray }) (5 : Nat) = parA (prn a ++ { data := #[(58 : UInt8)] : ByteArray }) (5 : Nat) ∧ parA (prn a ++ { data := #[(58 : UInt8)] : ByteArray }) (6 : Nat) = parA (prn a ++ { data := #[(58 : UInt8)] : ByteArray }) (6 : Nat) ∧ parA (prn a ++ { data := #[(58 : UInt8)] : ByteArray }) (7 : Nat) = parA (prn a ++ { data := #[(58 : UInt8)] : ByteArray }) (7 : Nat) ∧ parA (prn a ++ { data := #[(58 : UInt8)] : ByteArray }) (8 : Nat) = parA (prn a ++ { data := #[(58 : UInt8)] : ByteArray }) (8 : Nat) ∧ parA (prn a ++ { data := #[(58 : UInt8)] : ByteArray }) (9 : Nat) = parA (prn a ++ { data := #[(58 : UInt8)] : ByteArray }) (9 : Nat) ∧ parA (prn a ++ { data := #[(58 : UInt8)] : ByteArray }) (10 : Nat) = parA (prn a ++ { data := #[(58 : UInt8)] : ByteArray }) (10 : Nat) ∧ parA (prn a ++ { data := #[(58 : UInt8)] : ByteArray }) (11 : Nat) = parA (prn a ++ { data := #[(58 : UInt8)] : ByteArray }) (11 : Nat) ∧ parA (prn a ++ { data := #[(58 : UInt8)] : ByteArray }) (12 : Nat) = parA (prn a ++ { data := #[(58 : UInt8)] : ByteArray }) (12 : Nat) ∧ parA (prn a ++ { data := #[(58 : UInt8)] : ByteArray }) (13 : Nat) = parA (prn a ++ { data := #[(58 : UInt8)] : ByteArray }) (13 : Nat) ∧ parA (prn a ++ { data := #[(58 : UInt8)] : ByteArray }) (14 : Nat) = parA (prn a ++ { data := #[(58 : UInt8)] : ByteArray }) (14 : Nat) ∧ parA (prn a ++ { data := #[(58 : UInt8)] : ByteArray }) (15 : Nat) = parA (prn a ++ { data := #[(58 : UInt8)] : ByteArray }) (15 : Nat) ∧ True) ∧ (((23 : Nat) = (23 : TypeId) ∧ true = true) ∧ parA (prn a ++ { data := #[(46 : UInt8), (49 : UInt8)] : ByteArray }) (0 : Nat) = parA (prn a ++ { data := #[(46 : UInt8), (49 : UInt8)] : ByteArray }) (0 : Nat) ∧ parA (prn a ++ { data := #[(46 : UInt8), (49 : UInt8)] : ByteArray }) (1 : Nat) = parA (prn a ++ { data := #[(46 : UInt8), (49 : UInt8)] : ByteArray }) (1 : Nat) ∧ parA (prn a ++ { data := #[(46 : UInt8), (49 : UInt8)] : ByteArray }) (2 : Nat) = parA (prn a ++ { data := #[(46 : UInt8), (49 : UInt8)] : ByteArray }) (2 : Nat) ∧ parA (prn a ++ { data := #[(46 : UInt8), (49 : UInt8)] : ByteArray }) (3 : Nat) = parA (prn a ++ { data := #[(46 : UInt8), (49 : UInt8)] : ByteArray }) (3 : Nat) ∧ parA (prn a ++ { data := #[(46 : UInt8), (49 : UInt8)] : ByteArray }) (4 : Nat) = parA (prn a ++ { data := #[(46 : UInt8), (49 : UInt8)] : ByteArray }) (4 : Nat) ∧ parA (prn a ++ { data := #[(46 : UInt8), (49 : UInt8)] : ByteArray }) (5 : Nat) = parA (prn a ++ { data := #[(46 : UInt8), (49 : UInt8)] : ByteArray }) (5 : Nat) ∧ parA (prn a ++ { data := #[(46 : UInt8), (49 : UInt8)] : ByteArray }) (6 : Nat) = parA (prn a ++ { data := #[(46 : UInt8), (49 : UInt8)] : ByteArray }) (6 : Nat) ∧ parA (prn a ++ { data := #[(46 : UInt8), (49 : UInt8)] : ByteArray }) (7 : Nat) = parA (prn a ++ { data := #[(46 : UInt8), (49 : UInt8)] : ByteArray }) (7 : Nat) ∧ parA (prn a ++ { data := #[(46 : UInt8), (49 : UInt8)] : ByteArray }) (8 : Nat) = parA (prn a ++ { data := #[(46 : UInt8), (49 : UInt8)] : ByteArray }) (8 : Nat) ∧ parA (prn a ++ { data := #[(46 : UInt8), (49 : UInt8)] : ByteArray }) (9 : Nat) = parA (prn a ++ { data := #[(46 : UInt8), (49 : UInt8)] : ByteArray }) (9 : Nat) ∧ parA (prn a ++ { data := #[(46 : UInt8), (49 : UInt8)] : ByteArray }) (10 : Nat) = parA (prn a ++ { data := #[(46 : UInt8), (49 : UInt8)] : ByteArray }) (10 : Nat) ∧ parA (prn a ++ { data := #[(46 : UInt8), (49 : UInt8)] : ByteArray }) (11 : Nat) = parA (prn a ++ { data := #[(46 : UInt8), (49 : UInt8)] : ByteArray }) (11 : Nat) ∧ parA (prn a ++ { data := #[(46 : UInt8), (49 : UInt8)] : ByteArray }) (12 : Nat) = parA (prn a ++ { data := #[(46 : UInt8), (49 : UInt8)] : ByteArray }) (12 : Nat) ∧ parA (prn a ++ { data := #[(46 : UInt8), (49 : UInt8)] : ByteArray }) (13 : Nat) = parA (prn a ++ { data := #[(46 : UInt8), (49 : UInt8)] : ByteArray }) (13 : Nat) ∧ parA (prn a ++ { data := #[(46 : UInt8), (49 : UInt8)] : ByteArray }) (14 : Nat) = parA (prn a ++ { data := #[(46 : UInt8), (49 : UInt8)] : ByteArray }) (14 : Nat) ∧ parA (prn a ++ { data := #[(46 : UInt8), (49 : UInt8)] : ByteArray }) (15 : Nat) = parA (prn a ++ { data := #[(46 : UInt8), (49 : UInt8)] : ByteArray }) (15 : Nat) ∧ True) ∧ (((23 : Nat) = (23 : TypeId) ∧ true = true) ∧ parA { data := #[] : ByteArray } (0 : Nat) = parA { data := #[] : ByteArray } (0 : Nat) ∧ parA { data := #[] : ByteArray } (1 : Nat) = parA { data := #[] : ByteArray } (1 : Nat) ∧ parA { data := #[] : ByteArray } (2 : Nat) = parA { data := #[] : ByteArray } (2 : Nat) ∧ parA { data := #[] : ByteArray } (3 : Nat) = parA { data := #[] : ByteArray } (3 : Nat) ∧ parA { data := #[] : ByteArray } (4 : Nat) = parA { data := #[] : ByteArray } (4 : Nat) ∧ parA { data := #[] : ByteArray } (5 : Nat) = parA { data := #[] : ByteArray } (5 : Nat) ∧ parA { data := #[] : ByteArray } (6 : Nat) = parA { data := #[] : ByteArray } (6 : Nat) ∧ parA { data := #[] : ByteArray } (7 : Nat) = parA { data := #[] : ByteArray } (7 : Nat) ∧ parA { data := #[] : ByteArray } (8 : Nat) = parA { data := #[] : ByteArray } (8 : Nat) ∧ parA { data := #[] : ByteArray } (9 : Nat) = parA { data := #[] : ByteArray } (9 : Nat) ∧ parA { data := #[] : ByteArray } (10 : Nat) = parA { data := #[] : ByteArray } (10 : Nat) ∧ parA { data := #[] : ByteArray } (11 : Nat) = parA { data := #[] : ByteArray } (11 : Nat) ∧ parA { data := #[] : ByteArray } (12 : Nat) = parA { data := #[] : ByteArray } (12 : Nat) ∧ parA { data := #[] : ByteArray } (13 : Nat) = parA { data := #[] : ByteArray } (13 : Nat) ∧ parA { data := #[] : ByteArray } (14 : Nat) = parA { data := #[] : ByteArray } (14 : Nat) ∧ parA { data := #[] : ByteArray } (15 : Nat) = parA { data := #[] : ByteArray } (15 : Nat) ∧ True) ∧ (((5 : TypeId) = (5 : TypeId) ∧ false = false ∧ (1 : Nat) = (1 : Nat)) ∧ (prn a).size = (prn a).size ∧ ∀ (j : Nat), j < (prn a).size → [X8 (sbyte (prn a) (↑j : Int))] = [X8 (upB (prn a) x.i j)]) ∧ True) ∧ ∀ (x : IV), x.i.le (prn a).size → (decide ((↑x.i : Int) < (↑(prn a).size : Int)) = true → (0 : Int) ≤ (↑x.i : Int) ∧ (↑x.i : Int) < (↑(prn a).size : Int) ∧ (0 : Nat) + (↑x.i : Int).toNat < (prn a).size ∧ (decide (upB (prn a) x.i ((0 : Nat) + (↑x.i : Int).toNat) ≥ (97 : Int)) = true → (0 : Int) ≤ (↑x.i : Int)) ∧ (decide (upB (prn a) x.i ((0 : Nat) + (↑x.i : Int).toNat) ≥ (97 : Int)) = true → (↑x.i : Int) < (↑(prn a).size : Int)) ∧ (decide (upB (prn a) x.i ((0 : Nat) + (↑x.i : Int).toNat) ≥ (97 : Int)) = true → (0 : Nat) + (↑x.i : Int).toNat < (prn a).size) ∧ ((decide (upB (prn a) x.i ((0 : Nat) + (↑x.i : Int).toNat) ≥ (97 : Int)) && decide (upB (prn a) x.i ((0 : Nat) + (↑x.i : Int).toNat) ≤ (102 : Int))) = true → (0 : Int) ≤ (↑x.i : Int) ∧ (↑x.i : Int) < (↑(prn a).size : Int) ∧ (0 : Nat) + (↑x.i : Int).toNat < (prn a).size ∧ (0 : Int) ≤ (↑x.i : Int) ∧ (↑x.i : Int) < (↑(prn a).size : Int) ∧ (0 : Nat) + (↑x.i : Int).toNat < (prn a).size ∧ in64 ((↑x.i : Int) + (1 : Int)) ∧ ∃ (x' : (nzI a).σ), x'.i.le (prn a).size ∧ (prn a).size - x'.i < (prn a).size - x.i ∧ true = true ∧ false = false ∧ parN (nzT (prn a)) = parN (nzT (prn a)) ∧ parN (prn a ++ { data := #[(58 : UInt8)] : ByteArray }) = parN (prn a ++ { data := #[(58 : UInt8)] : ByteArray }) ∧ parN (prn a ++ { data := #[(46 : UInt8), (49 : UInt8)] : ByteArray }) = parN (prn a ++ { data := #[(46 : UInt8), (49 : UInt8)] : ByteArray }) ∧ parN { data := #[] : ByteArray } = parN { data := #[] : ByteArray } ∧ XV.sl (5 : Nat) (1 : Nat) (0 : Nat) (prn a).size = XV.sl (5 : Nat) (1 : Nat) (0 : Nat) (prn a).size ∧ true = upF (prn a) x'.i ∧ (↑(prn a).size : Int) = (↑(prn a).size : Int) ∧ (↑x.i : Int) + (1 : Int) = (↑x'.i : Int) ∧ (((23 : TypeId) = (23 : TypeId) ∧ true = true) ∧ a (0 : Nat) = a (0 : Nat) ∧ a (1 : Nat) = a (1 : Nat) ∧ a (2 : Nat) = a (2 : Nat) ∧ a (3 : Nat) = a (3 : Nat) ∧ a (4 : Nat) = a (4 : Nat) ∧ a (5 : Nat) = a (5 : Nat) ∧ a (6 : Nat) = a (6 : Nat) ∧ a (7 : Nat) = a (7 : Nat) ∧ a (8 : Nat) = a (8 : Nat) ∧ a (9 : Nat) = a (9 : Nat) ∧ a (10 : Nat) = a (10 : Nat) ∧ a (11 : Nat) = a (11 : Nat) ∧ a (12 : Nat) = a (12 : Nat) ∧ a (13 : Nat) = a (13 : Nat) ∧ a (14 : Nat) = a (14 : Nat) ∧ a (15 : Nat) = a (15 : Nat) ∧ True) ∧ (((23 : TypeId) = (23 : TypeId) ∧ true = true) ∧ parA (nzT (prn a)) (0 : Nat) = parA (nzT (prn a)) (0 : Nat) ∧ parA (nzT (prn a)) (1 : Nat) = parA (nzT (prn a)) (1 : Nat) ∧ parA (nzT (prn a)) (2 : Nat) = parA (nzT (prn a)) (2 : Nat) ∧ parA (nzT (prn a)) (3 : Nat) = parA (nzT (prn a)) (3 : Nat) ∧ parA (nzT (prn a)) (4 : Nat) = parA (nzT (prn a)) (4 : Nat) ∧ parA (nzT (prn a)) (5 : Nat) = parA (nzT (prn a)) (5 : Nat) ∧ parA (nzT (prn a)) (6 : Nat) = parA (nzT (prn a)) (6 : Nat) ∧ parA (nzT (prn a)) (7 : Nat) = parA (nzT (prn a)) (7 : Nat) ∧ parA (nzT (prn a)) (8 : Nat) = parA (nzT (prn a)) (8 : Nat) ∧ parA (nzT (prn a)) (9 : Nat) = parA (nzT (prn a)) (9 : Nat) ∧ parA (nzT (prn a)) (10 : Nat) = parA (nzT (prn a)) (10 : Nat) ∧ parA (nzT (prn a)) (11 : Nat) = parA (nzT (prn a)) (11 : Nat) ∧ parA (nzT (prn a)) (12 : Nat) = parA (nzT (prn a)) (12 : Nat) ∧ parA (nzT (prn a)) (13 : Nat) = parA (nzT (prn a)) (13 : Nat) ∧ parA (nzT (prn a)) (14 : Nat) = parA (nzT (prn a)) (14 : Nat) ∧ parA (nzT (prn a)) (15 : Nat) = parA (nzT (prn a)) (15 : Nat) ∧ True) ∧ (((23 : TypeId) = (23 : TypeId) ∧ true = true) ∧ parA (prn a ++ { data := #[(58 : UInt8)] : ByteArray }) (0 : Nat) = parA (prn a ++ { data := #[(58 : UInt8)] : ByteArray }) (0 : Nat) ∧ parA (prn a ++ { data := #[(58 : UInt8)] : ByteArray }) (1 : Nat) = parA (prn a ++ { data := #[(58 : UInt8)] : ByteArray }) (1 : Nat) ∧ parA (prn a ++ { data := #[(58 : UInt8)] : ByteArray }) (2 : Nat) = parA (prn a ++ { data := #[(58 : UInt8)] : ByteArray }) (2 : Nat) ∧ parA (prn a ++ { data := #[(58 : UInt8)] : ByteArray }) (3 : Nat) = parA (prn a ++ { data := #[(58 : UInt8)] : ByteArray }) (3 : Nat) ∧ parA (prn a ++ { data := #[(58 : UInt8)] : ByteArray }) (4 : Nat) = parA (prn a ++ { data := #[(58 : UInt8)] : ByteArray }) (4 : Nat) ∧ parA (prn a ++ { data := #[(58 : UInt8)] : ByteArray }) (5 : Nat) = parA (prn a ++ { data := #[(58 : UInt8)] : ByteArray }) (5 : Nat) ∧ parA (prn a ++ { data := #[(58 : UInt8)] : ByteArray }) (6 : Nat) = parA (prn a ++ { data := #[(58 : UInt8)] : ByteArray }) (6 : Nat) ∧ parA (prn a ++ { data := #[(58 : UInt8)] : ByteArray }) (7 : Nat) = parA (prn a ++ { data := #[(58 : UInt8)] : ByteArray }) (7 : Nat) ∧ parA (prn a ++ { data := #[(58 : UInt8)] : ByteArray }) (8 : Nat) = parA (prn a ++ { data := #[(58 : UInt8)] : ByteArray }) (8 : Nat) ∧ parA (prn a ++ { data := #[(58 : UInt8)] : ByteArray }) (9 : Nat) = parA (prn a ++ { data := #[(58 : UInt8)] : ByteArray }) (9 : Nat) ∧ parA (prn a ++ { data := #[(58 : UInt8)] : ByteArray }) (10 : Nat) = parA (prn a ++ { data := #[(58 : UInt8)] : ByteArray }) (10 : Nat) ∧ parA (prn a ++ { data := #[(58 : UInt8)] : ByteArray }) (11 : Nat) = parA (prn a ++ { data := #[(58 : UInt8)] : ByteArray }) (11 : Nat) ∧ parA (prn a ++ { data := #[(58 : UInt8)] : ByteArray }) (12 : Nat) = parA (prn a ++ { data := #[(58 : UInt8)] : ByteArray }) (12 : Nat) ∧ parA (prn a ++ { data := #[(58 : UInt8)] : ByteArray }) (13 : Nat) = parA (prn a ++ { data := #[(58 : UInt8)] : ByteArray }) (13 : Nat) ∧ parA (prn a ++ { data := #[(58 : UInt8)] : ByteArray }) (14 : Nat) = parA (prn a ++ { data := #[(58 : UInt8)] : ByteArray }) (14 : Nat) ∧ parA (prn a ++ { data := #[(58 : UInt8)] : ByteArray }) (15 : Nat) = parA (prn a ++ { data := #[(58 : UInt8)] : ByteArray }) (15 : Nat) ∧ True) ∧ (((23 : TypeId) = (23 : TypeId) ∧ true = true) ∧ parA (prn a ++ { data := #[(46 : UInt8), (49 : UInt8)] : ByteArray }) (0 : Nat) = parA (prn a ++ { data := #[(46 : UInt8), (49 : UInt8)] : ByteArray }) (0 : Nat) ∧ parA (prn a ++ { data := #[(46 : UInt8), (49 : UInt8)] : ByteArray }) (1 : Nat) = parA (prn a ++ { data := #[(46 : UInt8), (49 : UInt8)] : ByteArray }) (1 : Nat) ∧ parA (prn a ++ { data := #[(46 : UInt8), (49 : UInt8)] : ByteArray }) (2 : Nat) = parA (prn a ++ { data := #[(46 : UInt8), (49 : UInt8)] : ByteArray }) (2 : Nat) ∧ parA (prn a ++ { data := #[(46 : UInt8), (49 : UInt8)] : ByteArray }) (3 : Nat) = parA (prn a ++ { data := #[(46 : UInt8), (49 : UInt8)] : ByteArray }) (3 : Nat) ∧ parA (prn a ++ { data := #[(46 : UInt8), (49 : UInt8)] : ByteArray }) (4 : Nat) = parA (prn a ++ { data := #[(46 : UInt8), (49 : UInt8)] : ByteArray }) (4 : Nat) ∧ parA (prn a ++ { data := #[(46 : UInt8), (49 : UInt8)] : ByteArray }) (5 : Nat) = parA (prn a ++ { data := #[(46 : UInt8), (49 : UInt8)] : ByteArray }) (5 : Nat) ∧ parA (prn a ++ { data := #[(46 : UInt8), (49 : UInt8)] : ByteArray }) (6 : Nat) = parA (prn a ++ { data := #[(46 : UInt8), (49 : UInt8)] : ByteArray }) (6 : Nat) ∧ parA (prn a ++ { data := #[(46 : UInt8), (49 : UInt8)] : ByteArray }) (7 : Nat) = parA (prn a ++ { data := #[(46 : UInt8), (49 : UInt8)] : ByteArray }) (7 : Nat) ∧ parA (prn a ++ { data := #[(46 : UInt8), (49 : UInt8)] : ByteArray }) (8 : Nat) = parA (prn a ++ { data := #[(46 : UInt8), (49 : UInt8)] : ByteArray }) (8 : Nat) ∧ parA (prn a ++ { data := #[(46 : UInt8), (49 : UInt8)] : ByteArray }) (9 : Nat) = parA (prn a ++ { data := #[(46 : UInt8), (49 : UInt8)] : ByteArray }) (9 : Nat) ∧ parA (prn a ++ { data := #[(46 : UInt8), (49 : UInt8)] : ByteArray }) (10 : Nat) = parA (prn a ++ { data := #[(46 : UInt8), (49 : UInt8)] : ByteArray }) (10 : Nat) ∧ parA (prn a ++ { data := #[(46 : UInt8), (49 : UInt8)] : ByteArray }) (11 : Nat) = parA (prn a ++ { data := #[(46 : UInt8), (49 : UInt8)] : ByteArray }) (11 : Nat) ∧ parA (prn a ++ { data := #[(46 : UInt8), (49 : UInt8)] : ByteArray }) (12 : Nat) = parA (prn a ++ { data := #[(46 : UInt8), (49 : UInt8)] : ByteArray }) (12 : Nat) ∧ parA (prn a ++ { data := #[(46 : UInt8), (49 : UInt8)] : ByteArray }) (13 : Nat) = parA (prn a ++ { data := #[(46 : UInt8), (49 : UInt8)] : ByteArray }) (13 : Nat) ∧ parA (prn a ++ { data := #[(46 : UInt8), (49 : UInt8)] : ByteArray }) (14 : Nat) = parA (prn a ++ { data := #[(46 : UInt8), (49 : UInt8)] : ByteArray }) (14 : Nat) ∧ parA (prn a ++ { data := #[(46 : UInt8), (49 : UInt8)] : ByteArray }) (15 : Nat) = parA (prn a ++ { data := #[(46 : UInt8), (49 : UInt8)] : ByteArray }) (15 : Nat) ∧ True) ∧ (((23 : TypeId) = (23 : TypeId) ∧ true = true) ∧ parA { data := #[] : ByteArray } (0 : Nat) = parA { data := #[] : ByteArray } (0 : Nat) ∧ parA { data := #[] : ByteArray } (1 : Nat) = parA { data := #[] : ByteArray } (1 : Nat) ∧ parA { data := #[] : ByteArray } (2 : Nat) = parA { data := #[] : ByteArray } (2 : Nat) ∧ parA { data := #[] : ByteArray } (3 : Nat) = parA { data := #[] : ByteArray } (3 : Nat) ∧ parA { data := #[] : ByteArray } (4 : Nat) = parA { data := #[] : ByteArray } (4 : Nat) ∧ parA { data := #[] : ByteArray } (5 : Nat) = parA { data := #[] : ByteArray } (5 : Nat) ∧ parA { data := #[] : ByteArray } (6 : Nat) = parA { data := #[] : ByteArray } (6 : Nat) ∧ parA { data := #[] : ByteArray } (7 : Nat) = parA { data := #[] : ByteArray } (7 : Nat) ∧ parA { data := #[] : ByteArray } (8 : Nat) = parA { data := #[] : ByteArray } (8 : Nat) ∧ parA { data := #[] : ByteArray } (9 : Nat) = parA { data := #[] : ByteArray } (9 : Nat) ∧ parA { data := #[] : ByteArray } (10 : Nat) = parA { data := #[] : ByteArray } (10 : Nat) ∧ parA { data := #[] : ByteArray } (11 : Nat) = parA { data := #[] : ByteArray } (11 : Nat) ∧ parA { data := #[] : ByteArray } (12 : Nat) = parA { data := #[] : ByteArray } (12 : Nat) ∧ parA { data := #[] : ByteArray } (13 : Nat) = parA { data := #[] : ByteArray } (13 : Nat) ∧ parA { data := #[] : ByteArray } (14 : Nat) = parA { data := #[] : ByteArray } (14 : Nat) ∧ parA { data := #[] : ByteArray } (15 : Nat) = parA { data := #[] : ByteArray } (15 : Nat) ∧ True) ∧ (((5 : TypeId) = (5 : TypeId) ∧ false = false ∧ (1 : Nat) = (1 : Nat)) ∧ (prn a).size = (prn a).size ∧ ∀ (j : Nat), j < (prn a).size → (bif j.beq ((0 : Nat) + (↑x.i : Int).toNat) then [X8 (IntKind.u8.wrap (upB (prn a) x.i ((0 : Nat) + (↑x.i : Int).toNat) - (32 : Int)))] else [X8 (upB (prn a) x.i j)]) = [X8 (upB (prn a) x'.i j)]) ∧ True) ∧ ((decide (upB (prn a) x.i ((0 : Nat) + (↑x.i : Int).toNat) ≥ (97 : Int)) && decide (upB (prn a) x.i ((0 : Nat) + (↑x.i : Int).toNat) ≤ (102 : Int))) = false → in64 ((↑x.i : Int) + (1 : Int)) ∧ ∃ (x' : (nzI a).σ), x'.i.le (prn a).size ∧ (prn a).size - x'.i < (prn a).size - x.i ∧ true = true ∧ false = false ∧ parN (nzT (prn a)) = parN (nzT (prn a)) ∧ parN (prn a ++ { data := #[(58 : UInt8)] : ByteArray }) = parN (prn a ++ { data := #[(58 : UInt8)] : ByteArray }) ∧ parN (prn a ++ { data := #[(46 : UInt8), (49 : UInt8)] : ByteArray }) = parN (prn a ++ { data := #[(46 : UInt8), (49 : UInt8)] : ByteArray }) ∧ parN { data := #[] : ByteArray } = parN { data := #[] : ByteArray } ∧ XV.sl (5 : Nat) (1 : Nat) (0 : Nat) (prn a).size = XV.sl (5 : Nat) (1 : Nat) (0 : Nat) (prn a).size ∧ upF (prn a) x.i = upF (prn a) x'.i ∧ (↑(prn a).size : Int) = (↑(prn a).size : Int) ∧ (↑x.i : Int) + (1 : Int) = (↑x'.i : Int) ∧ (((23 : TypeId) = (23 : TypeId) ∧ true = true) ∧ a (0 : Nat) = a (0 : Nat) ∧ a (1 : Nat) = a (1 : Nat) ∧ a (2 : Nat) = a (2 : Nat) ∧ a (3 : Nat) = a (3 : Nat) ∧ a (4 : Nat) = a (4 : Nat) ∧ a (5 : Nat) = a (5 : Nat) ∧ a (6 : Nat) = a (6 : Nat) ∧ a (7 : Nat) = a (7 : Nat) ∧ a (8 : Nat) = a (8 : Nat) ∧ a (9 : Nat) = a (9 : Nat) ∧ a (10 : Nat) = a (10 : Nat) ∧ a (11 : Nat) = a (11 : Nat) ∧ a (12 : Nat) = a (12 : Nat) ∧ a (13 : Nat) = a (13 : Nat) ∧ a (14 : Nat) = a (14 : Nat) ∧ a (15 : Nat) = a (15 : Nat) ∧ True) ∧ (((23 : TypeId) = (23 : TypeId) ∧ true = true) ∧ parA (nzT (prn a)) (0 : Nat) = parA (nzT (prn a)) (0 : Nat) ∧ parA (nzT (prn a)) (1 : Nat) = parA (nzT (prn a)) (1 : Nat) ∧ parA (nzT (prn a)) (2 : Nat) = parA (nzT (prn a)) (2 : Nat) ∧ parA (nzT (prn a)) (3 : Nat) = parA (nzT (prn a)) (3 : Nat) ∧ parA (nzT (prn a)) (4 : Nat) = parA (nzT (prn a)) (4 : Nat) ∧ parA (nzT (prn a)) (5 : Nat) = parA (nzT (prn a)) (5 : Nat) ∧ parA (nzT (prn a)) (6 : Nat) = parA (nzT (prn a)) (6 : Nat) ∧ parA (nzT (prn a)) (7 : Nat) = parA (nzT (prn a)) (7 : Nat) ∧ parA (nzT (prn a)) (8 : Nat) = parA (nzT (prn a)) (8 : Nat) ∧ parA (nzT (prn a)) (9 : Nat) = parA (nzT (prn a)) (9 : Nat) ∧ parA (nzT (prn a)) (10 : Nat) = parA (nzT (prn a)) (10 : Nat) ∧ parA (nzT (prn a)) (11 : Nat) = parA (nzT (prn a)) (11 : Nat) ∧ parA (nzT (prn a)) (12 : Nat) = parA (nzT (prn a)) (12 : Nat) ∧ parA (nzT (prn a)) (13 : Nat) = parA (nzT (prn a)) (13 : Nat) ∧ parA (nzT (prn a)) (14 : Nat) = parA (nzT (prn a)) (14 : Nat) ∧ parA (nzT (prn a)) (15 : Nat) = parA (nzT (prn a)) (15 : Nat) ∧ True) ∧ (((23 : TypeId) = (23 : TypeId) ∧ true = true) ∧ parA (prn a ++ { data := #[(58 : UInt8)] : ByteArray }) (0 : Nat) = parA (prn a ++ { data := #[(58 : UInt8)] : ByteArray }) (0 : Nat) ∧ parA (prn a ++ { data := #[(58 : UInt8)] : ByteArray }) (1 : Nat) = parA (prn a ++ { data := #[(58 : UInt8)] : ByteArray }) (1 : Nat) ∧ parA (prn a ++ { data := #[(58 : UInt8)] : ByteArray }) (2 : Nat) = parA (prn a ++ { data := #[(58 : UInt8)] : ByteArray }) (2 : Nat) ∧ parA (prn a ++ { data := #[(58 : UInt8)] : ByteArray }) (3 : Nat) = parA (prn a ++ { data := #[(58 : UInt8)] : ByteArray }) (3 : Nat) ∧ parA (prn a ++ { data := #[(58 : UInt8)] : ByteArray }) (4 : Nat) = parA (prn a ++ { data := #[(58 : UInt8)] : ByteArray }) (4 : Nat) ∧ parA (prn a ++ { data := #[(58 : UInt8)] : ByteArray }) (5 : Nat) = parA (prn a ++ { data := #[(58 : UInt8)] : ByteArray }) (5 : Nat) ∧ parA (prn a ++ { data := #[(58 : UInt8)] : ByteArray }) (6 : Nat) = parA (prn a ++ { data := #[(58 : UInt8)] : ByteArray }) (6 : Nat) ∧ parA (prn a ++ { data := #[(58 : UInt8)] : ByteArray }) (7 : Nat) = parA (prn a ++ { data := #[(58 : UInt8)] : ByteArray }) (7 : Nat) ∧ parA (prn a ++ { data := #[(58 : UInt8)] : ByteArray }) (8 : Nat) = parA (prn a ++ { data := #[(58 : UInt8)] : ByteArray }) (8 : Nat) ∧ parA (prn a ++ { data := #[(58 : UInt8)] : ByteArray }) (9 : Nat) = parA (prn a ++ { data := #[(58 : UInt8)] : ByteArray }) (9 : Nat) ∧ parA (prn a ++ { data := #[(58 : UInt8)] : ByteArray }) (10 : Nat) = parA (prn a ++ { data := #[(58 : UInt8)] : ByteArray }) (10 : Nat) ∧ parA (prn a ++ { data := #[(58 : UInt8)] : ByteArray }) (11 : Nat) = parA (prn a ++ { data := #[(58 : UInt8)] : ByteArray }) (11 : Nat) ∧ parA (prn a ++ { data := #[(58 : UInt8)] : ByteArray }) (12 : Nat) = parA (prn a ++ { data := #[(58 : UInt8)] : ByteArray }) (12 : Nat) ∧ parA (prn a ++ { data := #[(58 : UInt8)] : ByteArray }) (13 : Nat) = parA (prn a ++ { data := #[(58 : UInt8)] : ByteArray }) (13 : Nat) ∧ parA (prn a ++ { data := #[(58 : UInt8)] : ByteArray }) (14 : Nat) = parA (prn a ++ { data := #[(58 : UInt8)] : ByteArray }) (14 : Nat) ∧ parA (prn a ++ { data := #[(58 : UInt8)] : ByteArray }) (15 : Nat) = parA (prn a ++ { data := #[(58 : UInt8)] : ByteArray }) (15 : Nat) ∧ True) ∧ (((23 : TypeId) = (23 : TypeId) ∧ true = true) ∧ parA (prn a ++ { data := #[(46 : UInt8), (49 : UInt8)] : ByteArray }) (0 : Nat) = parA (prn a ++ { data := #[(46 : UInt8), (49 : UInt8)] : ByteArray }) (0 : Nat) ∧ parA (prn a ++ { data := #[(46 : UInt8), (49 : UInt8)] : ByteArray }) (1 : Nat) = parA (prn a ++ { data := #[(46 : UInt8), (49 : UInt8)] : ByteArray }) (1 : Nat) ∧ parA (prn a ++ { data := #[(46 : UInt8), (49 : UInt8)] : ByteArray }) (2 : Nat) = parA (prn a ++ { data := #[(46 : UInt8), (49 : UInt8)] : ByteArray }) (2 : Nat) ∧ parA (prn a ++ { data := #[(46 : UInt8), (49 : UInt8)] : ByteArray }) (3 : Nat) = parA (prn a ++ { data := #[(46 : UInt8), (49 : UInt8)] : ByteArray }) (3 : Nat) ∧ parA (prn a ++ { data := #[(46 : UInt8), (49 : UInt8)] : ByteArray }) (4 : Nat) = parA (prn a ++ { data := #[(46 : UInt8), (49 : UInt8)] : ByteArray }) (4 : Nat) ∧ parA (prn a ++ { data := #[(46 : UInt8), (49 : UInt8)] : ByteArray }) (5 : Nat) = parA (prn a ++ { data := #[(46 : UInt8), (49 : UInt8)] : ByteArray }) (5 : Nat) ∧ parA (prn a ++ { data := #[(46 : UInt8), (49 : UInt8)] : ByteArray }) (6 : Nat) = parA (prn a ++ { data := #[(46 : UInt8), (49 : UInt8)] : ByteArray }) (6 : Nat) ∧ parA (prn a ++ { data := #[(46 : UInt8), (49 : UInt8)] : ByteArray }) (7 : Nat) = parA (prn a ++ { data := #[(46 : UInt8), (49 : UInt8)] : ByteArray }) (7 : Nat) ∧ parA (prn a ++ { data := #[(46 : UInt8), (49 : UInt8)] : ByteArray }) (8 : Nat) = parA (prn a ++ { data := #[(46 : UInt8), (49 : UInt8)] : ByteArray }) (8 : Nat) ∧ parA (prn a ++ { data := #[(46 : UInt8), (49 : UInt8)] : ByteArray }) (9 : Nat) = parA (prn a ++ { data := #[(46 : UInt8), (49 : UInt8)] : ByteArray }) (9 : Nat) ∧ parA (prn a ++ { data := #[(46 : UInt8), (49 : UInt8)] : ByteArray }) (10 : Nat) = parA (prn a ++ { data := #[(46 : UInt8), (49 : UInt8)] : ByteArray }) (10 : Nat) ∧ parA (prn a ++ { data := #[(46 : UInt8), (49 : UInt8)] : ByteArray }) (11 : Nat) = parA (prn a ++ { data := #[(46 : UInt8), (49 : UInt8)] : ByteArray }) (11 : Nat) ∧ parA (prn a ++ { data := #[(46 : UInt8), (49 : UInt8)] : ByteArray }) (12 : Nat) = parA (prn a ++ { data := #[(46 : UInt8), (49 : UInt8)] : ByteArray }) (12 : Nat) ∧ parA (prn a ++ { data := #[(46 : UInt8), (49 : UInt8)] : ByteArray }) (13 : Nat) = parA (prn a ++ { data := #[(46 : UInt8), (49 : UInt8)] : ByteArray }) (13 : Nat) ∧ parA (prn a ++ { data := #[(46 : UInt8), (49 : UInt8)] : ByteArray }) (14 : Nat) = parA (prn a ++ { data := #[(46 : UInt8), (49 : UInt8)] : ByteArray }) (14 : Nat) ∧ parA (prn a ++ { data := #[(46 : UInt8), (49 : UInt8)] : ByteArray }) (15 : Nat) = parA (prn a ++ { data := #[(46 : UInt8), (49 : UInt8)] : ByteArray }) (15 : Nat) ∧ True) ∧ (((23 : TypeId) = (23 : TypeId) ∧ true = true) ∧ parA { data := #[] : ByteArray } (0 : Nat) = parA { data := #[] : ByteArray } (0 : Nat) ∧ parA { data := #[] : ByteArray } (1 : Nat) = parA { data := #[] : ByteArray } (1 : Nat) ∧ parA { data := #[] : ByteArray } (2 : Nat) = parA { data := #[] : ByteArray } (2 : Nat) ∧ parA { data := #[] : ByteArray } (3 : Nat) = parA { data := #[] : ByteArray } (3 : Nat) ∧ parA { data := #[] : ByteArray } (4 : Nat) = parA { data := #[] : ByteArray } (4 : Nat) ∧ parA { data := #[] : ByteArray } (5 : Nat) = parA { data := #[] : ByteArray } (5 : Nat) ∧ parA { data := #[] : ByteArray } (6 : Nat) = parA { data := #[] : ByteArray } (6 : Nat) ∧ parA { data := #[] : ByteArray } (7 : Nat) = parA { data := #[] : ByteArray } (7 : Nat) ∧ parA { data := #[] : ByteArray } (8 : Nat) = parA { data := #[] : ByteArray } (8 : Nat) ∧ parA { data := #[] : ByteArray } (9 : Nat) = parA { data := #[] : ByteArray } (9 : Nat) ∧ parA { data := #[] : ByteArray } (10 : Nat) = parA { data := #[] : ByteArray } (10 : Nat) ∧ parA { data := #[] : ByteArray } (11 : Nat) = parA { data := #[] : ByteArray } (11 : Nat) ∧ parA { data := #[] : ByteArray } (12 : Nat) = parA { data := #[] : ByteArray } (12 : Nat) ∧ parA { data := #[] : ByteArray } (13 : Nat) = parA { data := #[] : ByteArray } (13 : Nat) ∧ parA { data := #[] : ByteArray } (14 : Nat) = parA { data := #[] : ByteArray } (14 : Nat) ∧ parA { data := #[] : ByteArray } (15 : Nat) = parA { data := #[] : ByteArray } (15 : Nat) ∧ True) ∧ (((5 : TypeId) = (5 : TypeId) ∧ false = false ∧ (1 : Nat) = (1 : Nat)) ∧ (prn a).size = (prn a).size ∧ ∀ (j : Nat), j < (prn a).size → [X8 (upB (prn a) x.i j)] = [X8 (upB (prn a) x'.i j)]) ∧ True)) ∧ (decide ((↑x.i : Int) < (↑(prn a).size : Int)) = false → (0 : Nat) + (prn a).size ≤ (prn a).size ∧ (∀ (j : Nat), j < (prn a).size → [X8 (upB (prn a) x.i ((0 : Nat) + j))] = [X8 (↑{ toBitVec := BitVec.ofNat (8 : Nat) (upB (prn a) x.i ((0 : Nat) + j)).toNat : UInt8 }.toNat : Int)]) ∧ (txtOf (prn a).size fun (j : Nat) => { toBitVec := BitVec.ofNat (8 : Nat) (upB (prn a) x.i ((0 : Nat) + j)).toNat : UInt8 }).size ≤ (1000000 : Nat) ∧ (parN (nzT (prn a)) == (5 : Int) && parN (prn a ++ { data := #[(58 : UInt8)] : ByteArray }) == (5 : Int) && parN (prn a ++ { data := #[(46 : UInt8), (49 : UInt8)] : ByteArray }) == (5 : Int) && parN { data := #[] : ByteArray } == (5 : Int) && (parN (txtOf (prn a).size fun (j : Nat) => { toBitVec := BitVec.ofNat (8 : Nat) (upB (prn a) x.i ((0 : Nat) + j)).toNat : UInt8 }) == (5 : Int)) == upF (prn a) x.i) = true))
theorem noughtsV_eq (a : Nat → Int) (n : Int) : noughtsV a n = (funC cxj Tryd.f7 (mkSc (nzE a) (bodyOf Tryd.f7)) [adr a, XI n] (XB true)) := by kernel_rfl
/-- The text behind the loop. -/
def upT (s : ByteArray) : ByteArray := txtOf s.size fun j => UInt8.ofNat (upB s s.size (0 + j)).toNat
theorem sb_rng (s : ByteArray) (i : Int) : 0 ≤ sbyte s i ∧ sbyte s i ≤ 255 := by
  unfold sbyte
  have := UInt8.toNat_lt (s.data.toList.getD i.toNat 0)
  omega
theorem upB_rng (s : ByteArray) (i j : Nat) : 0 ≤ upB s i j ∧ upB s i j ≤ 255 := by
  unfold upB
  split
  · exact wrap8 _
  · exact sb_rng _ _
theorem upB_b (s : ByteArray) (i j : Nat) : upB s i j = ((UInt8.ofNat (upB s i j).toNat).toNat : Int) := by
  have := upB_rng s i j
  rw [UInt8.toNat_ofNat']
  omega
theorem upF_iff (s : ByteArray) : ∀ i, upF s i = true ↔ ∃ j, j < i ∧ smC (sbyte s (j : Int)) = true
  | 0 => ⟨fun h => absurd h (by show ¬ false = true; decide), fun ⟨j, hj, _⟩ => absurd hj (by omega)⟩
  | i + 1 => by
    rw [upF]
    by_cases h : smC (sbyte s (i : Int)) = true
    · rw [if_pos h]
      exact ⟨fun _ => ⟨i, by omega, h⟩, fun _ => rfl⟩
    · rw [if_neg h, upF_iff s i]
      exact ⟨fun ⟨j, hj, h2⟩ => ⟨j, by omega, h2⟩, fun ⟨j, hj, h2⟩ => ⟨j, by
        by_cases e : j = i
        · exact absurd (e ▸ h2) h
        · omega, h2⟩⟩
theorem upT_size (s : ByteArray) : (upT s).size = s.size := by
  show ((List.range s.size).map _).toArray.size = _
  simp
theorem upT_not (s : ByteArray) (h : upF s s.size = false) : upT s = s := by
  apply data_inj
  show (List.range s.size).map _ = _
  apply List.ext_getElem?
  intro i
  rw [List.getElem?_map]
  by_cases hi : i < s.size
  · rw [List.getElem?_range hi]
    have hl : i < s.data.toList.length := by rw [← size_data]; exact hi
    rw [List.getElem?_eq_getElem hl]
    show some _ = some _
    congr 1
    have hn : ¬ (i < s.size ∧ smC (sbyte s (i : Int)) = true) := fun e => by
      have := (upF_iff s s.size).2 ⟨i, e⟩
      rw [h] at this
      cases this
    show UInt8.ofNat (upB s s.size (0 + i)).toNat = _
    rw [Nat.zero_add]
    unfold upB
    rw [if_neg hn]
    unfold sbyte
    rw [Int.toNat_natCast, Int.toNat_natCast, List.getD_eq_getElem?_getD, List.getElem?_eq_getElem hl]
    simp
  · rw [List.getElem?_eq_none (by simp; omega), List.getElem?_eq_none (by rw [← size_data]; omega)]
    rfl
theorem upT_cap (s : ByteArray) (h : upF s s.size = true) : ∃ c ∈ (upT s).data.toList, 65 ≤ c.toNat ∧ c.toNat ≤ 70 := by
  obtain ⟨j, hj, h2⟩ := (upF_iff s s.size).1 h
  refine ⟨UInt8.ofNat (upB s s.size (0 + j)).toNat, List.mem_map.2 ⟨j, List.mem_range.2 hj, rfl⟩, ?_⟩
  have h3 := h2
  unfold smC at h3
  rw [Bool.and_eq_true, decide_eq_true_iff, decide_eq_true_iff] at h3
  rw [Nat.zero_add, UInt8.toNat_ofNat']
  unfold upB
  rw [if_pos ⟨hj, h2⟩]
  have e : ∀ n : Int, IntKind.u8.wrap n = n % 256 := fun n => by simp [IntKind.wrap, IntKind.bits, IntKind.signed]
  rw [e]
  omega
theorem parN_nil : parN ⟨#[]⟩ = 5 := by decide +kernel
theorem nzT_size (s : ByteArray) : (nzT s).size ≤ s.size + 2 := by
  unfold nzT
  split
  · rw [ByteArray.size_append, ByteArray.size_append, ByteArray.size_extract]
    show 1 + _ + _ ≤ _
    omega
  · rw [ByteArray.size_append]
    show 1 + _ ≤ _
    omega
theorem parN_nz (a : Nat → Int) (ha : b16 a) : parN (nzT (prn a)) = 5 := by
  have hsb : sbyte (prn a) 0 = 58 ↔ (prn a).data.toList.getD 0 0 = 58 := by
    unfold sbyte
    constructor
    · intro h
      apply UInt8.toNat_inj.1
      have h : (((prn a).data.toList.getD 0 0).toNat : Int) = 58 := h
      show _ = 58
      omega
    · intro h
      show (((prn a).data.toList.getD 0 0).toNat : Int) = 58
      rw [h]
      rfl
  unfold nzT
  split
  · rename_i h
    have h := hsb.1 h
    refine no_nought2 a ha h _ ?_
    have hp : 0 < (prn a).size := by
      refine Nat.pos_of_ne_zero fun e => ?_
      rw [size_data] at e
      rw [List.length_eq_zero_iff.1 e] at h
      exact absurd h (by decide)
    rw [app_dt, app_dt, ext_data _ 0 1 (by omega) (by omega)]
    have hl : 0 < (prn a).data.toList.length := by rw [← size_data]; exact hp
    rw [List.drop_zero, List.take_succ_eq_append_getElem hl]
    have e2 : (prn a).data.toList[0] = 58 := by
      rw [List.getD_eq_getElem?_getD, List.getElem?_eq_getElem hl] at h
      exact h
    rw [e2]
    rfl
  · rename_i h
    exact no_nought a ha fun e => h (hsb.2 e)
theorem noughts_v (a : Nat → Int) (ha : b16 a) (n : Int) : noughtsV a n := by
  unfold noughtsV
  rw [prn_l a]
  have hs := prn_size a ha
  have hp : 0 < (prn a).size := by
    refine Nat.pos_of_ne_zero fun e => ?_
    have h5 := parN_prn a ha
    have : prn a = ⟨#[]⟩ := data_inj (by rw [size_data] at e; rw [List.length_eq_zero_iff.1 e])
    rw [this, parN_nil] at h5
    exact absurd h5 (by decide)
  have hn := nzT_size (prn a)
  have a1 : (prn a ++ ⟨#[58]⟩).size = (prn a).size + 1 := ByteArray.size_append
  have a2 : (prn a ++ ⟨#[46, 49]⟩).size = (prn a).size + 2 := ByteArray.size_append
  refine ⟨fun h => absurd h (by decide), fun _ => ⟨b16_l ha, by omega, ⟨by omega, by omega, fun h => ?_, fun h => ?_⟩, ?_⟩⟩
  · have h : sbyte (prn a) 0 = 58 := beq_iff_eq.mp h
    have a3 : ((prn a).extract 0 1).size ≤ 1 := by rw [ByteArray.size_extract]; omega
    refine ⟨by omega, by omega, by omega, by omega, by rw [ByteArray.size_append]; show 1 + _ + _ ≤ _; omega, ⟨()⟩, trivial, rfl, rfl, rfl, rfl, ?_, ?_, trivial⟩
    · unfold nzT
      rw [if_pos h]
    · and_intros <;> first | with_reducible rfl | trivial
  · have h : ¬ sbyte (prn a) 0 = 58 := fun e => by rw [beq_iff_eq.mpr e] at h; cases h
    refine ⟨⟨()⟩, trivial, rfl, rfl, rfl, rfl, ?_, ?_, trivial⟩
    · unfold nzT
      rw [if_neg h]
    · and_intros <;> first | with_reducible rfl | trivial
  rintro ⟨_⟩ _
  refine ⟨by omega, by omega, by omega, by omega, by omega, by omega, ⟨⟨0⟩, Nat.zero_le _, rfl, rfl, rfl, rfl, rfl, rfl, rfl, rfl, rfl, rfl, ?_, ?_, ?_, ?_, ?_, ⟨⟨rfl, rfl, rfl⟩, rfl, fun j hj => ?_⟩, trivial⟩, ?_⟩
  · and_intros <;> first | with_reducible rfl | trivial
  · and_intros <;> first | with_reducible rfl | trivial
  · and_intros <;> first | with_reducible rfl | trivial
  · and_intros <;> first | with_reducible rfl | trivial
  · and_intros <;> first | with_reducible rfl | trivial
  · show _ = [X8 (upB (prn a) 0 j)]
    unfold upB
    rw [if_neg (by omega)]
  rintro ⟨i⟩ hi
  have hi : i ≤ (prn a).size := hi
  refine ⟨fun h => ?_, fun h => ?_⟩
  · have h : (i : Int) < ((prn a).size : Int) := of_decide_eq_true h
    have e : 0 + (i : Int).toNat = i := by omega
    have eu : upB (prn a) i i = sbyte (prn a) (i : Int) := if_neg (by omega)
    dsimp only
    rw [e, eu]
    refine ⟨by omega, by omega, by omega, fun _ => by omega, fun _ => by omega, fun _ => by omega, fun h2 => ?_, fun h2 => ?_⟩
    · have h2 : smC (sbyte (prn a) (i : Int)) = true := h2
      refine ⟨by omega, by omega, by omega, by omega, by omega, by omega, by unfold in64; omega, ⟨i + 1⟩, by show i + 1 ≤ _; omega, by show (prn a).size - (i + 1) < (prn a).size - i; omega, rfl, rfl, rfl, rfl, rfl, rfl, rfl, ?_, rfl, rfl, ?_, ?_, ?_, ?_, ?_, ⟨⟨rfl, rfl, rfl⟩, rfl, fun j hj => ?_⟩, trivial⟩
      · show true = upF (prn a) (i + 1)
        rw [upF, if_pos h2]
      · and_intros <;> first | with_reducible rfl | trivial
      · and_intros <;> first | with_reducible rfl | trivial
      · and_intros <;> first | with_reducible rfl | trivial
      · and_intros <;> first | with_reducible rfl | trivial
      · and_intros <;> first | with_reducible rfl | trivial
      · show _ = [X8 (upB (prn a) (i + 1) j)]
        rw [beqN]
        by_cases hji : j = i
        · subst hji
          rw [decide_eq_true rfl, cond_true]
          have : upB (prn a) (j + 1) j = IntKind.u8.wrap (sbyte (prn a) (j : Int) - 32) := if_pos ⟨by omega, h2⟩
          rw [this]
        · rw [decide_eq_false hji, cond_false]
          have : upB (prn a) (i + 1) j = upB (prn a) i j := by
            unfold upB
            by_cases hs2 : smC (sbyte (prn a) (j : Int)) = true
            · by_cases hlt : j < i
              · rw [if_pos ⟨by omega, hs2⟩, if_pos ⟨hlt, hs2⟩]
              · rw [if_neg (by omega), if_neg (by omega)]
            · rw [if_neg (fun e => hs2 e.2), if_neg (fun e => hs2 e.2)]
          rw [this]
    · have h2 : ¬ smC (sbyte (prn a) (i : Int)) = true := fun e => by
        have h2 : smC (sbyte (prn a) (i : Int)) = false := h2
        rw [e] at h2
        cases h2
      refine ⟨by unfold in64; omega, ⟨i + 1⟩, by show i + 1 ≤ _; omega, by show (prn a).size - (i + 1) < (prn a).size - i; omega, rfl, rfl, rfl, rfl, rfl, rfl, rfl, ?_, rfl, rfl, ?_, ?_, ?_, ?_, ?_, ⟨⟨rfl, rfl, rfl⟩, rfl, fun j hj => ?_⟩, trivial⟩
      · show upF (prn a) i = upF (prn a) (i + 1)
        rw [upF, if_neg h2]
      · and_intros <;> first | with_reducible rfl | trivial
      · and_intros <;> first | with_reducible rfl | trivial
      · and_intros <;> first | with_reducible rfl | trivial
      · and_intros <;> first | with_reducible rfl | trivial
      · and_intros <;> first | with_reducible rfl | trivial
      · show [X8 (upB (prn a) i j)] = [X8 (upB (prn a) (i + 1) j)]
        unfold upB
        by_cases hji : j = i
        · rw [if_neg (by omega), if_neg (fun e => h2 (hji ▸ e.2))]
        · by_cases hs2 : smC (sbyte (prn a) (j : Int)) = true
          · by_cases hlt : j < i
            · rw [if_pos ⟨hlt, hs2⟩, if_pos ⟨by omega, hs2⟩]
            · rw [if_neg (by omega), if_neg (by omega)]
          · rw [if_neg (fun e => hs2 e.2), if_neg (fun e => hs2 e.2)]
  · have h : ¬ (i : Int) < ((prn a).size : Int) := of_decide_eq_false h
    obtain rfl : i = (prn a).size := by omega
    have hus := upT_size (prn a)
    refine ⟨by omega, fun j hj => ?_, ?_, ?_⟩
    · exact congrArg (fun x => [X8 x]) (upB_b (prn a) (prn a).size (0 + j))
    · show (upT (prn a)).size ≤ 1000000
      omega
    · show (parN (nzT (prn a)) == 5 && parN (prn a ++ ⟨#[58]⟩) == 5 && parN (prn a ++ ⟨#[46, 49]⟩) == 5 && parN ⟨#[]⟩ == 5 && (parN (upT (prn a)) == 5) == upF (prn a) (prn a).size) = true
      rw [parN_nz a ha, no_colon a ha, no_dot1 a ha, parN_nil]
      cases hu : upF (prn a) (prn a).size with
      | true =>
        obtain ⟨c, hc, h6⟩ := upT_cap _ hu
        rw [no_caps _ c hc h6]
        rfl
      | false =>
        rw [upT_not _ hu, parN_prn a ha]
        rfl
theorem noughts_ok : CTok Tryd.prog 7 (C2 dAL dInt (fun a _ => [b16 a]) fun _ _ => XB true) := C2_ok cxj_ok Tryd.func7 rfl (by decide) dAL_eq.ok dInt_eq.ok (by kernel_rfl) (fun _ _ => rfl) fun a n hc => exv (noughtsV_eq a n) (noughts_v a (hc (b16 a) (.head _)) n)
end Go.Proofs.YtghmlhdlkgjbeaaDoorAv
set_option linter.unusedVariables false
set_option linter.unusedSimpArgs false
set_option maxRecDepth 100000
namespace Go.Proofs.YtghmlhdlkgjbeaaDoorAv
open Go Go.RowKit
theorem addrNoughts_J (L : GH) (a : Nat → Int) (n : Int) (ha : b16 a) (hn : (Lit.int .i64 n).wf = true) : JF Tryd.prog 7 [adrAV a, intAV n] L (fun v L' => v = boolAV true ∧ L' = L) := by
  refine law_J noughts_ok (xs := [adr a, XI n]) (cs := _) rfl ?_ ?_ L
  · intro p hp
    simp only [List.nil_append, List.mem_cons, List.not_mem_nil, or_false] at hp
    rcases hp with rfl
    exact b16_l ha
  · simp only [RVL]
    exact ⟨adr_rv _ a, by simp [RV, intAV], trivial⟩
end Go.Proofs.YtghmlhdlkgjbeaaDoorAv
