/- order, plain: the words of a line, read sign by sign; what the reading of words comes to. -/
import Derived.Test.YtihplidgomjoeaaDoorOrB
set_option linter.unusedVariables false
set_option linter.unusedSimpArgs false
set_option maxRecDepth 100000
namespace Go.Proofs.YtihplidgomjoeaaDoorAv
open Go Go.RowKit
def fl : List UInt8 → List (List UInt8)
  | [] => []
  | c :: l => [c :: l]
def tk : List UInt8 → List UInt8 → List (List UInt8)
  | cur, [] => fl cur
  | cur, b :: l =>
    if (b == 32 || b == 9) = true then fl cur ++ tk [] l
    else if (b == 35) = true then fl cur
    else if (b == 91 || b == 93) = true then fl cur ++ [b] :: tk [] l
    else tk (cur ++ [b]) l
def neL (l : List UInt8) : Bool := !l.isEmpty
theorem fl_eq (c : List UInt8) : fl c = [c].filter neL := by cases c <;> rfl
/-- What is split into words. -/
def wG (l : List UInt8) : List UInt8 := repl1 9 [32] (cut1 35 (repl1 93 [32, 93, 32] (repl1 91 [32, 91, 32] l))).1
theorem repl1_cons (c : UInt8) (n : List UInt8) (b : UInt8) (l : List UInt8) : repl1 c n (b :: l) = (if b = c then n else [b]) ++ repl1 c n l := by
  unfold repl1
  rw [List.flatMap_cons]
theorem wG_nil : wG [] = [] := rfl
theorem wG_9 (l : List UInt8) : wG (9 :: l) = 32 :: wG l := by
  unfold wG
  rw [repl1_cons, if_neg (by decide), List.singleton_append, repl1_cons, if_neg (by decide), List.singleton_append, cut1, if_neg (by decide), repl1_cons, if_pos rfl]
  rfl
theorem wG_35 (l : List UInt8) : wG (35 :: l) = [] := by
  unfold wG
  rw [repl1_cons, if_neg (by decide), List.singleton_append, repl1_cons, if_neg (by decide), List.singleton_append, cut1, if_pos rfl]
  rfl
theorem cut1_ne {c b : UInt8} (h : b ≠ c) (l : List UInt8) : (cut1 c (b :: l)).1 = b :: (cut1 c l).1 := by
  rw [cut1, if_neg h]
theorem repl1_ne {c b : UInt8} (h : b ≠ c) (n l : List UInt8) : repl1 c n (b :: l) = b :: repl1 c n l := by
  rw [repl1_cons, if_neg h]; rfl
theorem wG_91 (l : List UInt8) : wG (91 :: l) = 32 :: 91 :: 32 :: wG l := by
  unfold wG
  rw [repl1_cons, if_pos rfl]
  show repl1 9 [32] (cut1 35 (repl1 93 [32, 93, 32] (32 :: 91 :: 32 :: repl1 91 [32, 91, 32] l))).1 = _
  rw [repl1_ne (by decide), repl1_ne (by decide), repl1_ne (by decide), cut1_ne (by decide), cut1_ne (by decide), cut1_ne (by decide), repl1_ne (by decide), repl1_ne (by decide), repl1_ne (by decide)]
theorem wG_93 (l : List UInt8) : wG (93 :: l) = 32 :: 93 :: 32 :: wG l := by
  unfold wG
  rw [repl1_ne (by decide), repl1_cons, if_pos rfl]
  show repl1 9 [32] (cut1 35 (32 :: 93 :: 32 :: repl1 93 [32, 93, 32] (repl1 91 [32, 91, 32] l))).1 = _
  rw [cut1_ne (by decide), cut1_ne (by decide), cut1_ne (by decide), repl1_ne (by decide), repl1_ne (by decide), repl1_ne (by decide)]
theorem wG_ne {b : UInt8} (h1 : b ≠ 9) (h2 : b ≠ 35) (h3 : b ≠ 91) (h4 : b ≠ 93) (l : List UInt8) : wG (b :: l) = b :: wG l := by
  unfold wG
  rw [repl1_ne h3, repl1_ne h4, cut1_ne h2, repl1_ne h1]
theorem split1_at : ∀ (cur l : List UInt8), (32 : UInt8) ∉ cur → split1 32 (cur ++ 32 :: l) = cur :: split1 32 l
  | [], l, _ => by
    show split1 32 (32 :: l) = _
    rw [split1, if_pos rfl]
  | b :: cur, l, h => by
    have hb : b ≠ 32 := fun e => h (by simp [e])
    have ih := split1_at cur l (fun e => h (by simp [e]))
    show split1 32 (b :: (cur ++ 32 :: l)) = _
    rw [split1, if_neg hb, ih]
theorem split1_end : ∀ (cur : List UInt8), (32 : UInt8) ∉ cur → split1 32 cur = [cur]
  | [], _ => rfl
  | b :: cur, h => by
    have hb : b ≠ 32 := fun e => h (by simp [e])
    have ih := split1_end cur (fun e => h (by simp [e]))
    rw [split1, if_neg hb, ih]
theorem tk_split : ∀ (l cur : List UInt8), (32 : UInt8) ∉ cur → (split1 32 (cur ++ wG l)).filter neL = tk cur l
  | [], cur, h => by
    rw [wG_nil, List.append_nil, split1_end cur h, tk, fl_eq]
  | b :: l, cur, h => by
    have ih := tk_split l [] (by simp)
    rw [List.nil_append] at ih
    unfold tk
    by_cases h9 : b = 9
    · subst h9
      rw [if_pos (by decide), wG_9, split1_at cur _ h, List.filter_cons, ← ih, fl_eq, List.filter_cons]
      split <;> rfl
    · by_cases h32 : b = 32
      · subst h32
        rw [if_pos (by decide), wG_ne (by decide) (by decide) (by decide) (by decide), split1_at cur _ h, List.filter_cons, ← ih, fl_eq, List.filter_cons]
        split <;> rfl
      · rw [if_neg (by simp [h9, h32])]
        by_cases h35 : b = 35
        · subst h35
          rw [if_pos (by decide), wG_35, List.append_nil, split1_end cur h, fl_eq]
        · rw [if_neg (by simp [h35])]
          by_cases h91 : b = 91
          · subst h91
            rw [if_pos (by decide), wG_91, split1_at cur _ h, List.filter_cons, ← ih, fl_eq, List.filter_cons]
            have e : split1 32 (91 :: 32 :: wG l) = [91] :: split1 32 (wG l) := split1_at [91] (wG l) (by decide)
            rw [e, List.filter_cons, if_pos (by rfl : neL [91] = true)]
            split <;> rfl
          · by_cases h93 : b = 93
            · subst h93
              rw [if_pos (by decide), wG_93, split1_at cur _ h, List.filter_cons, ← ih, fl_eq, List.filter_cons]
              have e : split1 32 (93 :: 32 :: wG l) = [93] :: split1 32 (wG l) := split1_at [93] (wG l) (by decide)
              rw [e, List.filter_cons, if_pos (by rfl : neL [93] = true)]
              split <;> rfl
            · rw [if_neg (by simp [h91, h93]), wG_ne h9 h35 h91 h93]
              have := tk_split l (cur ++ [b]) (by simp [h]; exact fun e => h32 e.symm)
              rw [List.append_assoc, List.singleton_append] at this
              exact this
theorem filter_mk8 : ∀ l : List (List UInt8), (l.map mk8).filter isNE = (l.filter neL).map mk8
  | [] => rfl
  | x :: l => by
    rw [List.map_cons, List.filter_cons, List.filter_cons, filter_mk8 l]
    have : isNE (mk8 x) = neL x := by
      cases x with
      | nil => rfl
      | cons a x =>
        show (!decide (mk8 (a :: x) = ⟨#[]⟩)) = true
        rw [decide_eq_false]
        · rfl
        · intro e
          have := congrArg ByteArray.size e
          rw [mk8_size] at this
          have h0 : (a :: x).length = 0 := this
          exact absurd h0 (by simp)
    rw [this]
    split <;> rfl
theorem pWords_eq (s : ByteArray) : pWords s = (tk [] s.data.toList).map mk8 := by
  rw [← tk_split s.data.toList [] (by simp), List.nil_append, ← filter_mk8]
  unfold pWords words wPieces pText
  rw [splitS_one, replB_one, cutB_one, replB_one, replB_one]
  rfl
/-! Reading -/
theorem prun_src (out : List Sr) (k : Nat) (hk : k < 3) (rest : List ByteArray) : pRun ⟨out, false⟩ (kindG k :: rest) = if out.length = 4 then (2, ⟨out, false⟩) else pRun ⟨out ++ [srcM ((k : Int) + 1)], false⟩ rest := by
  have hc : k = 0 ∨ k = 1 ∨ k = 2 := by omega
  have h1 : (decide (kindG k = ⟨#[91]⟩) && !false && decide ((out.length : Int) > 0)) = false := by
    rcases hc with rfl | rfl | rfl <;> rfl
  have h2 : (decide (kindG k = ⟨#[93]⟩) && false) = false := Bool.and_false _
  have hn : numF kindG (kindG k) 3 0 = (k : Int) + 1 := by rcases hc with rfl | rfl | rfl <;> rfl
  have hst := pStep_src out false (kindG k) h1 h2 rfl
  rw [hn, if_pos (decide_eq_true (by omega : (k : Int) + 1 > 0))] at hst
  rw [pRun_cons]
  by_cases h4 : out.length = 4
  · rw [if_pos (by rw [h4]; rfl)] at hst
    rw [hst, if_pos h4, if_neg (show ¬ (2 : Int) = 0 by decide)]
  · rw [if_neg (by simp; omega)] at hst
    rw [hst, if_neg h4, if_pos rfl]
theorem prun_open (out : List Sr) (h : out ≠ []) (rest : List ByteArray) : pRun ⟨out, false⟩ (⟨#[91]⟩ :: rest) = pRun ⟨out, true⟩ rest := by
  have hp : 0 < out.length := List.length_pos_iff.2 h
  rw [pRun_cons, pStep_open _ _ _ (by simp; omega)]
  rfl
theorem prun_shut (out : List Sr) (rest : List ByteArray) : pRun ⟨out, true⟩ (⟨#[93]⟩ :: rest) = pRun ⟨out, false⟩ rest := by
  rw [pRun_cons, pStep_shut _ _ _ (by simp) (by decide)]
  rfl
theorem prun_act (out : List Sr) (x y : Sr) (w : ByteArray) (hw : w ≠ ⟨#[93]⟩) (h : actM x w = some y) (rest : List ByteArray) : pRun ⟨out ++ [x], true⟩ (w :: rest) = pRun ⟨out ++ [y], true⟩ rest := by
  have hg : (out ++ [x]).getD ((out ++ [x]).length - 1) default = x := by
    rw [List.getD_eq_getElem?_getD, List.length_append, List.length_singleton, Nat.add_sub_cancel, List.getElem?_append_right (Nat.le_refl _), Nat.sub_self]
    rfl
  rw [pRun_cons, pStep_act _ _ _ (by simp) (by simp [hw]) rfl, hg, h]
  show (if (0 : Int) = 0 then _ else _) = _
  rw [if_pos rfl, List.dropLast_concat]
/-- Actions one behind the other. -/
def actsF (x : Sr) : List ByteArray → Option Sr
  | [] => some x
  | w :: l => if w = ⟨#[93]⟩ then none else match actM x w with
    | some y => actsF y l
    | none => none
theorem prun_acts (out : List Sr) : ∀ (ws : List ByteArray) (x y : Sr) (rest : List ByteArray), actsF x ws = some y → pRun ⟨out ++ [x], true⟩ (ws ++ rest) = pRun ⟨out ++ [y], true⟩ rest
  | [], x, y, rest, h => by
    obtain rfl := Option.some.inj h
    rfl
  | w :: ws, x, y, rest, h => by
    unfold actsF at h
    split at h
    · cases h
    · rename_i hw
      split at h
      · rename_i z hz
        rw [List.cons_append, prun_act out x z w hw hz]
        exact prun_acts out ws z y rest h
      · cases h
/-- A source with its actions in brackets. -/
def blockW (k : Nat) (ws : List ByteArray) : List ByteArray := kindG k :: (if ws = [] then [] else ⟨#[91]⟩ :: ws ++ [⟨#[93]⟩])
theorem prun_block (out : List Sr) (k : Nat) (hk : k < 3) (ws : List ByteArray) (y : Sr) (h4 : out.length < 4) (h : actsF (srcM ((k : Int) + 1)) ws = some y) (rest : List ByteArray) :
    pRun ⟨out, false⟩ (blockW k ws ++ rest) = pRun ⟨out ++ [y], false⟩ rest := by
  unfold blockW
  rw [List.cons_append, prun_src out k hk, if_neg (by omega)]
  by_cases hw : ws = []
  · subst hw
    obtain rfl := Option.some.inj h
    rfl
  · rw [if_neg hw, List.cons_append, List.cons_append, prun_open _ (by simp), List.append_assoc, prun_acts out ws _ _ _ h]
    exact prun_shut _ _
/-- What a line without fault comes to. -/
theorem prun_blocks : ∀ (l : List (Nat × List ByteArray × Sr)) (out : List Sr), (∀ b ∈ l, b.1 < 3 ∧ actsF (srcM ((b.1 : Int) + 1)) b.2.1 = some b.2.2) → out.length + l.length ≤ 4 → ∀ rest,
    pRun ⟨out, false⟩ (l.flatMap (fun b => blockW b.1 b.2.1) ++ rest) = pRun ⟨out ++ l.map (·.2.2), false⟩ rest
  | [], out, _, _, rest => by simp
  | b :: l, out, h, hn, rest => by
    rw [List.flatMap_cons, List.append_assoc, prun_block out b.1 (h b (by simp)).1 _ b.2.2 (by simp at hn; omega) (h b (by simp)).2]
    rw [prun_blocks l (out ++ [b.2.2]) (fun c hc => h c (by simp [hc])) (by simp at hn ⊢; omega) rest]
    simp
theorem parse_words (s : ByteArray) (h : pWords s ≠ []) : parse s = pEnd (pRun ⟨[], false⟩ (pWords s)) := by
  unfold parse
  rw [if_neg (fun e => h (List.length_eq_zero_iff.1 e))]
theorem parse_none (s : ByteArray) (h : pWords s = []) : parse s = (dflt, 0) := by
  unfold parse
  rw [h]
  rfl
/-- What is known of all that is read. -/
def srOk (s : Sr) : Prop := 1 ≤ s.k ∧ s.k ≤ 3 ∧ s.r0 = false
theorem actM_k {x y : Sr} {w : ByteArray} (h : actM x w = some y) : y.k = x.k ∧ y.r0 = x.r0 := by
  unfold actM at h
  split at h
  · cases h
  · obtain rfl := Option.some.inj h
    exact ⟨rfl, rfl⟩
theorem prun_inv : ∀ (l : List ByteArray) (st : PS), (∀ s ∈ st.out, srOk s) → st.out.length ≤ 4 → (st.ins = true → st.out ≠ []) →
    ((pRun st l).1 = 0 → (∀ s ∈ (pRun st l).2.out, srOk s) ∧ (pRun st l).2.out.length ≤ 4 ∧ (l ≠ [] ∨ st.out ≠ [] → (pRun st l).2.out ≠ [])) ∧ ((pRun st l).1 ≠ 0 → (pRun st l).1 = 6 ∨ (pRun st l).1 = 2)
  | [], st, h1, h2, h3 => ⟨fun _ => ⟨h1, h2, fun h => h.elim (fun e => absurd rfl e) id⟩, fun h => absurd rfl h⟩
  | w :: l, ⟨o, b⟩, h1, h2, h3 => by
    rw [pRun_cons]
    have h2 : o.length ≤ 4 := h2
    have go : ∀ o' b', pStep ⟨o, b⟩ w = (0, ⟨o', b'⟩) → (∀ s ∈ o', srOk s) → o'.length ≤ 4 → o' ≠ [] → 
        ((if (pStep ⟨o, b⟩ w).1 = 0 then pRun (pStep ⟨o, b⟩ w).2 l else pStep ⟨o, b⟩ w).1 = 0 → (∀ s ∈ (if (pStep ⟨o, b⟩ w).1 = 0 then pRun (pStep ⟨o, b⟩ w).2 l else pStep ⟨o, b⟩ w).2.out, srOk s) ∧ (if (pStep ⟨o, b⟩ w).1 = 0 then pRun (pStep ⟨o, b⟩ w).2 l else pStep ⟨o, b⟩ w).2.out.length ≤ 4 ∧ (w :: l ≠ [] ∨ o ≠ [] → (if (pStep ⟨o, b⟩ w).1 = 0 then pRun (pStep ⟨o, b⟩ w).2 l else pStep ⟨o, b⟩ w).2.out ≠ [])) ∧ ((if (pStep ⟨o, b⟩ w).1 = 0 then pRun (pStep ⟨o, b⟩ w).2 l else pStep ⟨o, b⟩ w).1 ≠ 0 → (if (pStep ⟨o, b⟩ w).1 = 0 then pRun (pStep ⟨o, b⟩ w).2 l else pStep ⟨o, b⟩ w).1 = 6 ∨ (if (pStep ⟨o, b⟩ w).1 = 0 then pRun (pStep ⟨o, b⟩ w).2 l else pStep ⟨o, b⟩ w).1 = 2) := by
      intro o' b' e k1 k2 k3
      rw [e, if_pos rfl]
      have := prun_inv l ⟨o', b'⟩ k1 k2 (fun _ => k3)
      exact ⟨fun h => ⟨(this.1 h).1, (this.1 h).2.1, fun _ => (this.1 h).2.2 (.inr k3)⟩, this.2⟩
    have stop : ∀ e, e ≠ 0 → (e = 6 ∨ e = 2) → (pStep ⟨o, b⟩ w).1 = e → 
        ((if (pStep ⟨o, b⟩ w).1 = 0 then pRun (pStep ⟨o, b⟩ w).2 l else pStep ⟨o, b⟩ w).1 = 0 → (∀ s ∈ (if (pStep ⟨o, b⟩ w).1 = 0 then pRun (pStep ⟨o, b⟩ w).2 l else pStep ⟨o, b⟩ w).2.out, srOk s) ∧ (if (pStep ⟨o, b⟩ w).1 = 0 then pRun (pStep ⟨o, b⟩ w).2 l else pStep ⟨o, b⟩ w).2.out.length ≤ 4 ∧ (w :: l ≠ [] ∨ o ≠ [] → (if (pStep ⟨o, b⟩ w).1 = 0 then pRun (pStep ⟨o, b⟩ w).2 l else pStep ⟨o, b⟩ w).2.out ≠ [])) ∧ ((if (pStep ⟨o, b⟩ w).1 = 0 then pRun (pStep ⟨o, b⟩ w).2 l else pStep ⟨o, b⟩ w).1 ≠ 0 → (if (pStep ⟨o, b⟩ w).1 = 0 then pRun (pStep ⟨o, b⟩ w).2 l else pStep ⟨o, b⟩ w).1 = 6 ∨ (if (pStep ⟨o, b⟩ w).1 = 0 then pRun (pStep ⟨o, b⟩ w).2 l else pStep ⟨o, b⟩ w).1 = 2) := by
      intro e k1 k2 k3
      rw [if_neg (by rw [k3]; exact k1)]
      exact ⟨fun h => absurd (k3.symm.trans h) k1, fun _ => by rw [k3]; exact k2⟩
    cases hc1 : (decide (w = ⟨#[91]⟩) && !b && decide ((o.length : Int) > 0)) with
    | true =>
      refine go o true (pStep_open _ _ _ hc1) h1 h2 ?_
      intro e
      subst e
      simp at hc1
    | false =>
      cases hc2 : (decide (w = ⟨#[93]⟩) && b) with
      | true =>
        refine go o false (pStep_shut _ _ _ hc1 hc2) h1 h2 (h3 ?_)
        simp only [Bool.and_eq_true] at hc2
        exact hc2.2
      | false =>
        cases b with
        | true =>
          have hst := pStep_act _ _ _ hc1 hc2 rfl
          have hne := h3 rfl
          cases hm : actM (o.getD (o.length - 1) default) w with
          | none =>
            rw [hm] at hst
            exact stop 6 (by decide) (.inl rfl) (by rw [hst])
          | some y =>
            rw [hm] at hst
            have hp : 0 < o.length := List.length_pos_iff.2 hne
            have hy := actM_k hm
            have hl : o.getD (o.length - 1) default ∈ o := by
              rw [List.getD_eq_getElem?_getD, List.getElem?_eq_getElem (by omega)]
              exact List.getElem_mem _
            have hs := h1 _ hl
            refine go _ _ hst ?_ ?_ (by simp)
            · intro s hs'
              rcases List.mem_append.1 hs' with hs' | hs'
              · exact h1 s (List.dropLast_subset _ hs')
              · obtain rfl := List.mem_singleton.1 hs'
                unfold srOk at hs ⊢
                rw [hy.1, hy.2]
                exact hs
            · rw [List.length_append, List.length_dropLast, List.length_singleton]
              omega
        | false =>
          have hst := pStep_src _ _ _ hc1 hc2 rfl
          have hk := numF_le kindG w 3 0
          cases hb : decide (numF kindG w 3 0 > 0) with
          | false =>
            rw [hb, if_neg (by decide)] at hst
            exact stop 6 (by decide) (.inl rfl) (by rw [hst])
          | true =>
            rw [hb, if_pos rfl] at hst
            have hpos : numF kindG w 3 0 > 0 := of_decide_eq_true hb
            cases h4 : ((o.length : Int) == 4) with
            | true =>
              rw [h4, if_pos rfl] at hst
              exact stop 2 (by decide) (.inr rfl) (by rw [hst])
            | false =>
              rw [h4, if_neg (by decide)] at hst
              have h4' : o.length ≠ 4 := by
                intro e
                rw [e] at h4
                exact absurd h4 (by decide)
              refine go _ _ hst ?_ (by rw [List.length_append, List.length_singleton]; omega) (by simp)
              intro s hs'
              rcases List.mem_append.1 hs' with hs' | hs'
              · exact h1 s hs'
              · obtain rfl := List.mem_singleton.1 hs'
                refine ⟨?_, ?_, rfl⟩
                · show 1 ≤ numF kindG w 3 0
                  omega
                · show numF kindG w 3 0 ≤ 3
                  omega
theorem parse_inv (s : ByteArray) : ((parse s).2 = 0 → (∀ x ∈ (parse s).1, srOk x) ∧ (parse s).1.length ≤ 4 ∧ (parse s).1 ≠ []) ∧ ((parse s).2 ≠ 0 → (parse s).1 = [] ∧ ((parse s).2 = 6 ∨ (parse s).2 = 2)) := by
  by_cases hw : pWords s = []
  · rw [parse_none s hw]
    refine ⟨fun _ => ⟨?_, by decide, by decide⟩, fun h => absurd rfl h⟩
    intro x hx
    simp only [dflt, List.mem_cons, List.not_mem_nil, or_false] at hx
    rcases hx with rfl | rfl | rfl <;> exact ⟨by decide, by decide, rfl⟩
  · rw [parse_words s hw]
    have h := prun_inv (pWords s) ⟨[], false⟩ (by simp) (by simp) (by simp)
    unfold pEnd
    generalize pRun ⟨[], false⟩ (pWords s) = r at h ⊢
    obtain ⟨r1, r2⟩ := r
    by_cases h0 : r1 = 0
    · rw [if_pos h0]
      have h := h.1 h0
      split
      · exact ⟨fun e => absurd e (by decide), fun _ => ⟨rfl, .inl rfl⟩⟩
      · exact ⟨fun _ => ⟨h.1, h.2.1, h.2.2 (.inl hw)⟩, fun e => absurd rfl e⟩
    · rw [if_neg h0]
      have h6 := h.2 h0
      dsimp only
      exact ⟨fun e => absurd e h0, fun _ => ⟨rfl, h6⟩⟩
end Go.Proofs.YtihplidgomjoeaaDoorAv
