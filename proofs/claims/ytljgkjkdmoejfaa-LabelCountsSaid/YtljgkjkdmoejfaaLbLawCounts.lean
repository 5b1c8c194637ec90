/- The statement LabelCounts, walked: it is true of every input. -/
import Derived.Test.YtljgkjkdmoejfaaLbPure
import Derived.Test.YtljgkjkdmoejfaaAvRow
set_option linter.unusedVariables false
set_option linter.unusedSimpArgs false
namespace Go.Proofs.YtljgkjkdmoejfaaAv
open Go Go.RowKit

/-- A part that may stand between points. -/
def plain (s : ByteArray) : Bool := !(decide (s = ofBytes []) || !decide ((split s).length = 1))

theorem parts_joinB : ∀ (l : List (List UInt8)), l ≠ [] → (∀ p ∈ l, ∀ c ∈ p, c ≠ 46) → parts (joinB l) = l
  | [], h, _ => absurd rfl h
  | [p], _, h => by simp only [joinB]; exact parts_end p (h p (by simp))
  | p :: q :: l, _, h => by
    simp only [joinB]
    rw [parts_dot p _ (h p (by simp)), parts_joinB (q :: l) (by simp) (fun x hx => h x (List.mem_cons_of_mem _ hx))]
theorem plain_no {s : ByteArray} (h : plain s = true) : byt s ≠ [] ∧ ∀ c ∈ byt s, c ≠ 46 := by
  unfold plain at h
  simp only [Bool.not_or, Bool.not_not, Bool.and_eq_true, Bool.not_eq_true', decide_eq_false_iff_not, decide_eq_true_eq] at h
  obtain ⟨h0, h1⟩ := h
  refine ⟨fun e => h0 (byt_inj (by rw [e, byt_of])), fun c hc e => ?_⟩
  rw [split, List.length_map, parts_length] at h1
  subst e
  have := List.count_pos_iff.2 hc
  omega
theorem byt_join (l : List ByteArray) : byt (join l) = joinB (l.map byt) := by rw [join, byt_of]
theorem split_join (l : List ByteArray) (hn : l ≠ []) (h : ∀ s ∈ l, plain s = true) : split (join l) = l := by
  rw [split, byt_join, parts_joinB _ (by simpa using hn) (by
    intro p hp
    obtain ⟨s, hs, rfl⟩ := List.mem_map.1 hp
    exact (plain_no (h s hs)).2)]
  rw [List.map_map]
  have : ofBytes ∘ byt = id := by funext s; exact of_byt s
  rw [this, List.map_id]
theorem join_ne_dot (l : List ByteArray) (hn : l ≠ []) (h : ∀ s ∈ l, plain s = true) : join l ≠ ofBytes [46] := by
  intro e
  have hs := split_join l hn h
  rw [e] at hs
  have e2 : split (ofBytes [46]) = [ofBytes [], ofBytes []] := by rw [split, byt_of]; rfl
  rw [e2] at hs
  have := (plain_no (h (ofBytes []) (by rw [← hs]; simp))).1
  exact this (byt_of [])
theorem count_join (l : List ByteArray) (hn : l ≠ []) (h : ∀ s ∈ l, plain s = true) : count (join l) = l.length := by
  rw [count, if_neg (join_ne_dot l hn h), split_join l hn h]
theorem joinB_size (l : List (List UInt8)) : (joinB l).length ≤ (l.map List.length).sum + l.length := by
  match l with
  | [] => simp [joinB]
  | [x] => simp [joinB]
  | x :: y :: l =>
    have := joinB_size (y :: l)
    simp only [joinB, List.length_append, List.length_cons, List.map_cons, List.sum_cons] at this ⊢
    omega
theorem join_size (l : List ByteArray) : (join l).size ≤ sizes l + l.length := by
  have := joinB_size (l.map byt)
  rw [← byt_length, byt_join]
  rw [List.map_map, List.length_map] at this
  have e : (List.length ∘ byt) = fun s : ByteArray => s.size := by funext s; exact byt_length s
  rw [e] at this
  exact this
theorem size_le_sizes {s : ByteArray} : ∀ {l : List ByteArray}, s ∈ l → s.size ≤ sizes l
  | [], h => by cases h
  | x :: l, h => by
    rcases List.mem_cons.1 h with rfl | h
    · simp [sizes]
    · have := size_le_sizes h
      simp only [sizes, List.map_cons, List.sum_cons] at this ⊢
      omega
theorem sizes_append (a b : List ByteArray) : sizes (a ++ b) = sizes a + sizes b := by simp [sizes]
theorem under_joins (a b : List ByteArray) (hb : b ≠ []) : under (join (a ++ b)) (join b) = true := by
  unfold under
  rw [Bool.or_eq_true]
  right
  rw [endsWith_iff]
  rw [lower, byt_of, lower, byt_of, byt_join, byt_join, List.map_append]
  cases a with
  | nil => exact .inl rfl
  | cons x a =>
    right
    rw [joinB_append _ _ (by simp) (by simpa using hb)]
    refine ⟨(joinB ((x :: a).map byt)).map lowB, ?_⟩
    simp only [List.map_append, List.map_cons]
    rfl
theorem not_under_joins (a b : List ByteArray) (ha : a ≠ []) (hb : b ≠ []) (h : ∀ s ∈ a ++ b, plain s = true) : under (join b) (join (a ++ b)) = false := by
  have hd := join_ne_dot (a ++ b) (by simp [ha]) h
  unfold under
  rw [decide_eq_false hd, Bool.false_or]
  cases he : endsWith (split (lower (join b))) (split (lower (join (a ++ b)))) with
  | false => rfl
  | true =>
    exfalso
    rw [endsWith_iff] at he
    have hl : (byt (lower (join (a ++ b)))).length ≤ (byt (lower (join b))).length := by
      rcases he with he | ⟨z, he⟩
      · rw [he]; exact Nat.le_refl _
      · rw [he]; simp; omega
    rw [lower, byt_of, lower, byt_of, List.length_map, List.length_map, byt_join, byt_join, List.map_append] at hl
    cases a with
    | nil => exact ha rfl
    | cons x a =>
      rw [joinB_append _ _ (by simp) (by simpa using hb)] at hl
      simp at hl
      omega

set_option maxHeartbeats 4000000 in
theorem labelCounts_J (L : GH) (a b : List ByteArray) (hla : a.length ≤ 8796093022208) (hsa : ∀ s ∈ a, s.size ≤ 140737488351232) (hlb : b.length ≤ 8796093022208) (hsb : ∀ s ∈ b, s.size ≤ 140737488351232) : JF Try.prog 8 [strsAV a, strsAV b] L (fun v L' => v = boolAV true ∧ L' = L) := by
  have hsa1 : sizes a ≤ a.length * 140737488351232 := sizes_le hsa
  have hsb1 : sizes b ≤ b.length * 140737488351232 := sizes_le hsb
  refine JF.body Try.func8 rfl (by simp [Try.f8]) ?_
  ((repeat (first | refine J.seq ?_ | refine J.block ?_)); refine J.region ?_)
  (repeat refine Go ?_)
  refine JO.nil ?_
  ((repeat (first | refine J.seq ?_ | refine J.block ?_)); refine J.region ?_)
  (repeat (first | refine Go ?_ | refine Go (h := by (first | exact Step.on (h := by (first | (refine Step.call Try.func13 (fit_J _) <;> omega))) | (first | (refine Step.call Try.func13 (fit_J _) <;> omega)) | exact Step.gdT (hv := by (intro hg; have hg2 := hg; (try simp only [Bool.and_eq_true, Bool.not_eq_true'] at hg2); (try simp only [hg, hg2, cond_true, Bool.not_true, Bool.not_false, Bool.true_and, Bool.and_true]); (try simp only [decide_eq_true_eq, decide_eq_false_iff_not, Bool.or_eq_false_iff, Bool.not_eq_false', Bool.not_eq_true'] at hg2); (first | (refine Step.call Try.func13 (fit_J _) <;> omega)))) | exact Step.gdF (hv := by (intro hg; have hg2 := hg; (try simp only [Bool.and_eq_true, Bool.not_eq_true'] at hg2); (try simp only [hg, hg2, cond_true, Bool.not_true, Bool.not_false, Bool.true_and, Bool.and_true]); (try simp only [decide_eq_true_eq, decide_eq_false_iff_not, Bool.or_eq_false_iff, Bool.not_eq_false', Bool.not_eq_true'] at hg2); (first | (refine Step.call Try.func13 (fit_J _) <;> omega)))) | exact Step.gd2T (hv := by (intro hg; have hg2 := hg; (try simp only [Bool.and_eq_true, Bool.not_eq_true'] at hg2); (try simp only [hg, hg2, cond_true, Bool.not_true, Bool.not_false, Bool.true_and, Bool.and_true]); (try simp only [decide_eq_true_eq, decide_eq_false_iff_not, Bool.or_eq_false_iff, Bool.not_eq_false', Bool.not_eq_true'] at hg2); (first | (refine Step.call Try.func13 (fit_J _) <;> omega)))) | exact Step.gd2F (hv := by (intro hg; have hg2 := hg; (try simp only [Bool.and_eq_true, Bool.not_eq_true'] at hg2); (try simp only [hg, hg2, cond_true, Bool.not_true, Bool.not_false, Bool.true_and, Bool.and_true]); (try simp only [decide_eq_true_eq, decide_eq_false_iff_not, Bool.or_eq_false_iff, Bool.not_eq_false', Bool.not_eq_true'] at hg2); (first | (refine Step.call Try.func13 (fit_J _) <;> omega)))))) ?_))
  refine JO.nil ?_
  ((repeat (first | refine J.seq ?_ | refine J.block ?_)); refine J.ifF ?_ ?_; (focus ((try simp only [fv, ev, ibin, ishift, sbin, TM.putO, TM.put, tm0, puts, List.getD_cons_zero, List.getD_cons_succ, List.map_cons, List.map_nil, reduceIte, Nat.reduceEqDiff, reduceCtorEq]) <;> rfl)))
  refine J.skip ?_
  refine J.keep [(0, strsAV a), (1, strsAV b)] ⟨rfl, rfl, trivial⟩ fun t => ?_
  ((repeat (first | refine J.seq ?_ | refine J.block ?_)); refine J.region ?_)
  (repeat (first | refine Go ?_ | refine Go (h := by (first | exact Step.on (h := by (first | (refine Step.call Try.func14 (light_J _ _ ?_ ?_) <;> omega))) | (first | (refine Step.call Try.func14 (light_J _ _ ?_ ?_) <;> omega)) | exact Step.gdT (hv := by (intro hg; have hg2 := hg; (try simp only [Bool.and_eq_true, Bool.not_eq_true'] at hg2); (try simp only [hg, hg2, cond_true, Bool.not_true, Bool.not_false, Bool.true_and, Bool.and_true]); (try simp only [decide_eq_true_eq, decide_eq_false_iff_not, Bool.or_eq_false_iff, Bool.not_eq_false', Bool.not_eq_true'] at hg2); (first | (refine Step.call Try.func14 (light_J _ _ ?_ ?_) <;> omega)))) | exact Step.gdF (hv := by (intro hg; have hg2 := hg; (try simp only [Bool.and_eq_true, Bool.not_eq_true'] at hg2); (try simp only [hg, hg2, cond_true, Bool.not_true, Bool.not_false, Bool.true_and, Bool.and_true]); (try simp only [decide_eq_true_eq, decide_eq_false_iff_not, Bool.or_eq_false_iff, Bool.not_eq_false', Bool.not_eq_true'] at hg2); (first | (refine Step.call Try.func14 (light_J _ _ ?_ ?_) <;> omega)))) | exact Step.gd2T (hv := by (intro hg; have hg2 := hg; (try simp only [Bool.and_eq_true, Bool.not_eq_true'] at hg2); (try simp only [hg, hg2, cond_true, Bool.not_true, Bool.not_false, Bool.true_and, Bool.and_true]); (try simp only [decide_eq_true_eq, decide_eq_false_iff_not, Bool.or_eq_false_iff, Bool.not_eq_false', Bool.not_eq_true'] at hg2); (first | (refine Step.call Try.func14 (light_J _ _ ?_ ?_) <;> omega)))) | exact Step.gd2F (hv := by (intro hg; have hg2 := hg; (try simp only [Bool.and_eq_true, Bool.not_eq_true'] at hg2); (try simp only [hg, hg2, cond_true, Bool.not_true, Bool.not_false, Bool.true_and, Bool.and_true]); (try simp only [decide_eq_true_eq, decide_eq_false_iff_not, Bool.or_eq_false_iff, Bool.not_eq_false', Bool.not_eq_true'] at hg2); (first | (refine Step.call Try.func14 (light_J _ _ ?_ ?_) <;> omega)))))) ?_))
  refine JO.nil ?_
  ((repeat (first | refine J.seq ?_ | refine J.block ?_)); refine J.cond (b := ?_) ?_ (fun h => ?_) (fun h => ?_); rotate_left; (focus ((try simp only [fv, ev, ibin, ishift, sbin, TM.putO, TM.put, tm0, puts, List.getD_cons_zero, List.getD_cons_succ, List.map_cons, List.map_nil, reduceIte, Nat.reduceEqDiff, reduceCtorEq]) <;> rfl)))
  · ((repeat (first | refine J.seq ?_ | refine J.block ?_)); refine J.region ?_)
    (repeat refine Go ?_)
    refine JO.nil ?_
    exact J.ret ⟨_, rfl, rfl, rfl⟩
  · refine J.skip ?_
    simp only [Bool.or_eq_false_iff, Bool.not_eq_false', decide_eq_true_eq, decide_eq_false_iff_not, beq_eq_false_iff_ne] at h
    have hc : a.length ≤ 20 ∧ b.length ≤ 20 ∧ sizes a ≤ 600 ∧ sizes b ≤ 600 ∧ b ≠ [] := by
      refine ⟨by omega, by omega, by omega, by omega, ?_⟩
      rintro rfl
      simp at h
    obtain ⟨h1, h2, h3, h4, hb⟩ := hc
    refine J.keep [(0, strsAV a), (1, strsAV b)] ⟨rfl, rfl, trivial⟩ fun t => ?_
    ((repeat (first | refine J.seq ?_ | refine J.block ?_)); refine J.region ?_)
    (repeat refine Go ?_)
    refine R.append (L0 := L) (og := none) (cs := []) (m := a.length) (n := 0) (ys := a.map strAV) Try.underlying29 TI9 rfl (fun g h => by cases h) rfl (fun _ => ⟨rfl, rfl⟩) rfl rfl (by simp) (ones_strs a) (by omega) (by omega) (by omega) rfl fun og1 hF1 hn1 => ?_
    (repeat refine Go ?_)
    refine R.append (L0 := L) (m := b.length) (ys := b.map strAV) Try.underlying29 TI9 rfl hF1 rfl hn1 (by simp) rfl (by simp) (ones_strs b) (by omega) (by omega) (by omega) rfl fun og2 hF2 hn2 => ?_
    refine JO.freeze 37 hF2 rfl hn2 (by simp) ?_
    (repeat refine Go ?_)
    refine JO.nil ?_
    refine J.keep [(0, strsAV a), (1, strsAV b), (37, strsAV (a ++ b)), (38, intAV (a ++ b).length), (39, intAV 0)] ⟨rfl, rfl, ?_, ?_, rfl, trivial⟩ fun t => ?_
    · simp only [fv, ev, ibin, ishift, sbin, TM.putO, TM.put, tm0, puts, List.getD_cons_zero, List.getD_cons_succ, List.map_cons, List.map_nil, reduceIte, Nat.reduceEqDiff, reduceCtorEq, strsAV, cells_strs, List.length_append, Nat.zero_add]
    · simp only [fv, ev, ibin, ishift, sbin, TM.putO, TM.put, tm0, puts, List.getD_cons_zero, List.getD_cons_succ, List.map_cons, List.map_nil, reduceIte, Nat.reduceEqDiff, reduceCtorEq, intAV, List.length_append, Nat.zero_add]
    generalize hab : a ++ b = ab
    have hlen : ab.length ≤ 40 := by rw [← hab, List.length_append]; omega
    (repeat (first | refine J.seq ?_ | refine J.block ?_))
    refine J.loopS (σ := Nat) (fun i => [(0, strsAV a), (1, strsAV b), (37, strsAV ab), (38, intAV ab.length), (39, intAV i)]) (fun _ => L) (fun i => i ≤ ab.length ∧ ∀ s ∈ ab.take i, plain s = true) (fun i => ab.length - i) 0 ⟨Nat.zero_le _, by simp⟩ ⟨rfl, rfl, rfl, rfl, rfl, trivial⟩ rfl ?_
    rintro i t ⟨hi, hall⟩
    ((repeat (first | refine J.seq ?_ | refine J.block ?_)); refine J.region ?_)
    (repeat refine Go ?_)
    refine JO.nil ?_
    ((repeat (first | refine J.seq ?_ | refine J.block ?_)); refine J.cond (b := ?_) ?_ (fun h => ?_) (fun h => ?_); rotate_left; (focus ((try simp only [fv, ev, ibin, ishift, sbin, TM.putO, TM.put, tm0, puts, List.getD_cons_zero, List.getD_cons_succ, List.map_cons, List.map_nil, reduceIte, Nat.reduceEqDiff, reduceCtorEq]) <;> rfl)))
    · have hlt : i < ab.length := by have := of_decide_eq_true h; omega
      have hsz : ab[i].size ≤ 1200 := by
        have h5 := sizes_append a b
        rw [hab] at h5
        have h6 : ab[i].size ≤ sizes ab := by
          exact size_le_sizes (List.getElem_mem hlt)
        omega
      refine J.skip ?_
      ((repeat (first | refine J.seq ?_ | refine J.block ?_)); refine J.region ?_)
      refine R.idxFz1 (f := strAV) (xs := ab) (j := i) Try.underlying29 TI9 rfl rfl rfl hlt ?_
      refine JO.ldFp Try.underlying9 rfl rfl rfl rfl ?_
      (repeat refine Go ?_)
      refine JO.nil ?_
      generalize hs : ab[i] = s at *
      ((repeat (first | refine J.seq ?_ | refine J.block ?_)); refine J.region ?_)
      (repeat (first | refine Go ?_ | refine Go (h := by (first | exact Step.on (h := by (first | (refine Step.call Try.func18 (split_J _ _ ?_) <;> omega))) | (first | (refine Step.call Try.func18 (split_J _ _ ?_) <;> omega)) | exact Step.gdT (hv := by (intro hg; have hg2 := hg; (try simp only [Bool.and_eq_true, Bool.not_eq_true'] at hg2); (try simp only [hg, hg2, cond_true, Bool.not_true, Bool.not_false, Bool.true_and, Bool.and_true]); (try simp only [decide_eq_true_eq, decide_eq_false_iff_not, Bool.or_eq_false_iff, Bool.not_eq_false', Bool.not_eq_true'] at hg2); (first | (refine Step.call Try.func18 (split_J _ _ ?_) <;> omega)))) | exact Step.gdF (hv := by (intro hg; have hg2 := hg; (try simp only [Bool.and_eq_true, Bool.not_eq_true'] at hg2); (try simp only [hg, hg2, cond_true, Bool.not_true, Bool.not_false, Bool.true_and, Bool.and_true]); (try simp only [decide_eq_true_eq, decide_eq_false_iff_not, Bool.or_eq_false_iff, Bool.not_eq_false', Bool.not_eq_true'] at hg2); (first | (refine Step.call Try.func18 (split_J _ _ ?_) <;> omega)))) | exact Step.gd2T (hv := by (intro hg; have hg2 := hg; (try simp only [Bool.and_eq_true, Bool.not_eq_true'] at hg2); (try simp only [hg, hg2, cond_true, Bool.not_true, Bool.not_false, Bool.true_and, Bool.and_true]); (try simp only [decide_eq_true_eq, decide_eq_false_iff_not, Bool.or_eq_false_iff, Bool.not_eq_false', Bool.not_eq_true'] at hg2); (first | (refine Step.call Try.func18 (split_J _ _ ?_) <;> omega)))) | exact Step.gd2F (hv := by (intro hg; have hg2 := hg; (try simp only [Bool.and_eq_true, Bool.not_eq_true'] at hg2); (try simp only [hg, hg2, cond_true, Bool.not_true, Bool.not_false, Bool.true_and, Bool.and_true]); (try simp only [decide_eq_true_eq, decide_eq_false_iff_not, Bool.or_eq_false_iff, Bool.not_eq_false', Bool.not_eq_true'] at hg2); (first | (refine Step.call Try.func18 (split_J _ _ ?_) <;> omega)))))) ?_))
      refine JO.nil ?_
      ((repeat (first | refine J.seq ?_ | refine J.block ?_)); refine J.cond (b := ?_) ?_ (fun h => ?_) (fun h => ?_); rotate_left; (focus ((try simp only [fv, ev, ibin, ishift, sbin, TM.putO, TM.put, tm0, puts, List.getD_cons_zero, List.getD_cons_succ, List.map_cons, List.map_nil, reduceIte, Nat.reduceEqDiff, reduceCtorEq]) <;> rfl)))
      · ((repeat (first | refine J.seq ?_ | refine J.block ?_)); refine J.region ?_)
        (repeat refine Go ?_)
        refine JO.nil ?_
        exact J.ret ⟨_, rfl, rfl, rfl⟩
      · refine J.skip ?_
        have hp : plain s = true := by
          unfold plain
          simp only [Bool.or_eq_false_iff] at h
          rw [show decide (s = ofBytes []) = false from h.1, Bool.false_or, Bool.not_not]
          have := h.2
          simp at this
          exact decide_eq_true (by omega)
        ((repeat (first | refine J.seq ?_ | refine J.block ?_)); refine J.region ?_)
        (repeat refine Go ?_)
        refine JO.nil ?_
        refine ⟨i + 1, ⟨by omega, ?_⟩, by omega, ⟨rfl, rfl, rfl, rfl, rfl, trivial⟩, rfl⟩
        intro x hx
        rw [List.take_succ_eq_append_getElem hlt, List.mem_append] at hx
        rcases hx with hx | hx
        · exact hall x hx
        · rw [List.mem_singleton] at hx
          rw [hx, hs]; exact hp
    · have hge : i = ab.length := by have := of_decide_eq_false h; omega
      subst hge
      rw [List.take_length] at hall
      refine J.exit ?_
      have hpb : ∀ s ∈ b, plain s = true := fun s hs => hall s (by rw [← hab]; exact List.mem_append_right _ hs)
      have hjb := join_size b
      have hjab := join_size ab
      have hs5 := sizes_append a b
      rw [hab] at hs5
      refine J.keep [(0, strsAV a), (1, strsAV b)] ⟨rfl, rfl, trivial⟩ fun t => ?_
      ((repeat (first | refine J.seq ?_ | refine J.block ?_)); refine J.region ?_)
      (repeat (first | refine Go ?_ | refine Go (h := by (first | exact Step.on (h := by (first | (refine Step.call Try.func19 (join_J _ _ ?_ ?_) <;> omega))) | (first | (refine Step.call Try.func19 (join_J _ _ ?_ ?_) <;> omega)) | exact Step.gdT (hv := by (intro hg; have hg2 := hg; (try simp only [Bool.and_eq_true, Bool.not_eq_true'] at hg2); (try simp only [hg, hg2, cond_true, Bool.not_true, Bool.not_false, Bool.true_and, Bool.and_true]); (try simp only [decide_eq_true_eq, decide_eq_false_iff_not, Bool.or_eq_false_iff, Bool.not_eq_false', Bool.not_eq_true'] at hg2); (first | (refine Step.call Try.func19 (join_J _ _ ?_ ?_) <;> omega)))) | exact Step.gdF (hv := by (intro hg; have hg2 := hg; (try simp only [Bool.and_eq_true, Bool.not_eq_true'] at hg2); (try simp only [hg, hg2, cond_true, Bool.not_true, Bool.not_false, Bool.true_and, Bool.and_true]); (try simp only [decide_eq_true_eq, decide_eq_false_iff_not, Bool.or_eq_false_iff, Bool.not_eq_false', Bool.not_eq_true'] at hg2); (first | (refine Step.call Try.func19 (join_J _ _ ?_ ?_) <;> omega)))) | exact Step.gd2T (hv := by (intro hg; have hg2 := hg; (try simp only [Bool.and_eq_true, Bool.not_eq_true'] at hg2); (try simp only [hg, hg2, cond_true, Bool.not_true, Bool.not_false, Bool.true_and, Bool.and_true]); (try simp only [decide_eq_true_eq, decide_eq_false_iff_not, Bool.or_eq_false_iff, Bool.not_eq_false', Bool.not_eq_true'] at hg2); (first | (refine Step.call Try.func19 (join_J _ _ ?_ ?_) <;> omega)))) | exact Step.gd2F (hv := by (intro hg; have hg2 := hg; (try simp only [Bool.and_eq_true, Bool.not_eq_true'] at hg2); (try simp only [hg, hg2, cond_true, Bool.not_true, Bool.not_false, Bool.true_and, Bool.and_true]); (try simp only [decide_eq_true_eq, decide_eq_false_iff_not, Bool.or_eq_false_iff, Bool.not_eq_false', Bool.not_eq_true'] at hg2); (first | (refine Step.call Try.func19 (join_J _ _ ?_ ?_) <;> omega)))))) ?_))
      refine JO.nil ?_
      ((repeat (first | refine J.seq ?_ | refine J.block ?_)); refine J.region ?_)
      (repeat refine Go ?_)
      refine R.append (L0 := L) (og := none) (cs := []) (m := a.length) (n := 0) (ys := a.map strAV) Try.underlying29 TI9 rfl (fun g h => by cases h) rfl (fun _ => ⟨rfl, rfl⟩) rfl rfl (by simp) (ones_strs a) (by omega) (by omega) (by omega) rfl fun og1 hF1 hn1 => ?_
      (repeat refine Go ?_)
      refine R.append (L0 := L) (m := b.length) (ys := b.map strAV) Try.underlying29 TI9 rfl hF1 rfl hn1 (by simp) rfl (by simp) (ones_strs b) (by omega) (by omega) (by omega) rfl fun og2 hF2 hn2 => ?_
      refine JO.freeze 57 hF2 rfl hn2 (by simp) ?_
      simp only [cells_strs, hab]
      rw [show 0 + a.length + b.length = ab.length by rw [← hab, List.length_append]; omega]
      refine JO.callV (v := strAV (join ab)) Try.func19 rfl (by decide) rfl ?_ ?_
      · exact join_J _ ab (by omega) (by omega)
      (repeat refine Go ?_)
      refine JO.nil ?_
      refine J.keep [(0, strsAV a), (1, strsAV b), (7, strAV (join b)), (8, strAV (join ab))] ⟨rfl, rfl, rfl, rfl, trivial⟩ fun t => ?_
      have e1 := count_join b hb hpb
      have e2 := count_join ab (by rw [← hab]; simp [hb]) hall
      have e3 := under_joins a b hb
      have e4 : a ≠ [] → under (join b) (join ab) = false := fun ha => by rw [← hab]; exact not_under_joins a b ha hb (by rw [hab]; exact hall)
      rw [hab] at e3
      have hl5 : ab.length = a.length + b.length := by rw [← hab, List.length_append]
      generalize join b = jb at *
      generalize join ab = jab at *
      ((repeat (first | refine J.seq ?_ | refine J.block ?_)); refine J.region ?_)
      (repeat (first | refine Go ?_ | refine Go (h := by (first | exact Step.on (h := by (first | (refine Step.call Try.func20 (count_J _ _ ?_) <;> omega) | (refine Step.call Try.func16 (under_J _ _ _ ?_ ?_) <;> omega))) | (first | (refine Step.call Try.func20 (count_J _ _ ?_) <;> omega) | (refine Step.call Try.func16 (under_J _ _ _ ?_ ?_) <;> omega)) | exact Step.gdT (hv := by (intro hg; have hg2 := hg; (try simp only [Bool.and_eq_true, Bool.not_eq_true'] at hg2); (try simp only [hg, hg2, cond_true, Bool.not_true, Bool.not_false, Bool.true_and, Bool.and_true]); (try simp only [decide_eq_true_eq, decide_eq_false_iff_not, Bool.or_eq_false_iff, Bool.not_eq_false', Bool.not_eq_true'] at hg2); (first | (refine Step.call Try.func20 (count_J _ _ ?_) <;> omega) | (refine Step.call Try.func16 (under_J _ _ _ ?_ ?_) <;> omega)))) | exact Step.gdF (hv := by (intro hg; have hg2 := hg; (try simp only [Bool.and_eq_true, Bool.not_eq_true'] at hg2); (try simp only [hg, hg2, cond_true, Bool.not_true, Bool.not_false, Bool.true_and, Bool.and_true]); (try simp only [decide_eq_true_eq, decide_eq_false_iff_not, Bool.or_eq_false_iff, Bool.not_eq_false', Bool.not_eq_true'] at hg2); (first | (refine Step.call Try.func20 (count_J _ _ ?_) <;> omega) | (refine Step.call Try.func16 (under_J _ _ _ ?_ ?_) <;> omega)))) | exact Step.gd2T (hv := by (intro hg; have hg2 := hg; (try simp only [Bool.and_eq_true, Bool.not_eq_true'] at hg2); (try simp only [hg, hg2, cond_true, Bool.not_true, Bool.not_false, Bool.true_and, Bool.and_true]); (try simp only [decide_eq_true_eq, decide_eq_false_iff_not, Bool.or_eq_false_iff, Bool.not_eq_false', Bool.not_eq_true'] at hg2); (first | (refine Step.call Try.func20 (count_J _ _ ?_) <;> omega) | (refine Step.call Try.func16 (under_J _ _ _ ?_ ?_) <;> omega)))) | exact Step.gd2F (hv := by (intro hg; have hg2 := hg; (try simp only [Bool.and_eq_true, Bool.not_eq_true'] at hg2); (try simp only [hg, hg2, cond_true, Bool.not_true, Bool.not_false, Bool.true_and, Bool.and_true]); (try simp only [decide_eq_true_eq, decide_eq_false_iff_not, Bool.or_eq_false_iff, Bool.not_eq_false', Bool.not_eq_true'] at hg2); (first | (refine Step.call Try.func20 (count_J _ _ ?_) <;> omega) | (refine Step.call Try.func16 (under_J _ _ _ ?_ ?_) <;> omega)))))) ?_))
      refine JO.nil ?_
      refine J.ret ⟨_, rfl, ?_, rfl⟩
      rw [e1, e2, e3, hl5]
      simp only [fv, ev, ibin, ishift, sbin, TM.putO, TM.put, tm0, puts, List.getD_cons_zero, List.getD_cons_succ, List.map_cons, List.map_nil, reduceIte, Nat.reduceEqDiff, reduceCtorEq, boolAV, out1, strsAV]
      by_cases ha : a = []
      · subst ha; simp
      · rw [e4 ha]; simp
end Go.Proofs.YtljgkjkdmoejfaaAv
