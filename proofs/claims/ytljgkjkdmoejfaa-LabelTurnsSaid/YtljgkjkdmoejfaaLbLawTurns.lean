/- The statement LabelTurns, walked: it is true of every input. -/
import Derived.Test.YtljgkjkdmoejfaaLbRight
import Derived.Test.YtljgkjkdmoejfaaAvAuto
set_option linter.unusedVariables false
set_option linter.unusedSimpArgs false
namespace Go.Proofs.YtljgkjkdmoejfaaAv
open Go Go.RowKit

theorem lowB_is (k : UInt8) (hk : lowB k = k) (hn : ¬ (97 ≤ k.toNat ∧ k.toNat ≤ 122)) (b : UInt8) : lowB b = k ↔ b = k := by
  unfold lowB
  constructor
  · intro h
    split at h
    · rename_i hb
      have := congrArg UInt8.toNat h
      rw [UInt8.toNat_ofNat'] at this
      omega
    · exact h
  · rintro rfl
    exact hk
theorem byt_lower (s : ByteArray) : byt (lower s) = (byt s).map lowB := by rw [lower, byt_of]
theorem lower_dot (s : ByteArray) : lower s = ofBytes [46] ↔ s = ofBytes [46] := by
  constructor
  · intro h
    have hb := congrArg byt h
    rw [byt_lower, byt_of] at hb
    match hs : byt s with
    | [] => rw [hs] at hb; cases hb
    | [c] =>
      rw [hs] at hb
      simp only [List.map_cons, List.map_nil, List.cons.injEq, and_true] at hb
      have := (lowB_is 46 (by decide) (by decide) c).1 hb
      exact byt_inj (by rw [hs, byt_of, this])
    | _ :: _ :: _ => rw [hs] at hb; simp at hb
  · rintro rfl; decide +kernel
theorem under_lower (a b : ByteArray) : under (lower a) (lower b) = under a b := by
  unfold under
  rw [lower_idem, lower_idem]
  congr 1
  exact decide_eq_decide.2 (lower_dot b)
theorem under_iff (a b : ByteArray) : under a b = true ↔ b = ofBytes [46] ∨ (byt (lower a) = byt (lower b) ∨ ∃ z, byt (lower a) = z ++ 46 :: byt (lower b)) := by
  unfold under
  rw [Bool.or_eq_true, endsWith_iff, decide_eq_true_eq]
theorem under_trans (a b c : ByteArray) (hb : b ≠ ofBytes [46]) (h1 : under a b = true) (h2 : under b c = true) : under a c = true := by
  rw [under_iff] at *
  rcases h2 with h2 | h2
  · exact .inl h2
  · right
    rcases h1 with h1 | h1
    · exact absurd h1 hb
    · rcases h1 with h1 | ⟨z, h1⟩
      · rcases h2 with h2 | ⟨y, h2⟩
        · exact .inl (h1.trans h2)
        · exact .inr ⟨y, h1.trans h2⟩
      · rcases h2 with h2 | ⟨y, h2⟩
        · exact .inr ⟨z, by rw [h1, h2]⟩
        · exact .inr ⟨z ++ 46 :: y, by rw [h1, h2]; simp⟩
theorem under_dot (a b : ByteArray) : under (a ++ ofBytes [46] ++ b) b = true := by
  rw [under_iff]
  refine .inr (.inr ⟨byt (lower a), ?_⟩)
  rw [byt_lower, byt_append, byt_append, byt_of, byt_lower, byt_lower]
  simp only [List.map_append, List.map_cons, List.map_nil, List.append_assoc, List.cons_append, List.nil_append]
  rfl
theorem okB_low (b : UInt8) : okB (lowB b) = okB b := by
  have : ∀ n : Fin 256, okB (lowB (UInt8.ofNat n.val)) = okB (UInt8.ofNat n.val) := by decide +kernel
  have h := this ⟨b.toNat, b.toNat_lt⟩
  rwa [show UInt8.ofNat b.toNat = b from UInt8.toNat_inj.1 (by rw [UInt8.toNat_ofNat']; have := b.toNat_lt; omega)] at h
theorem right_lower (a : ByteArray) : right (lower a) = right a := by
  unfold right
  rw [lower_size, byt_lower]
  have h45 : ∀ i : Nat, ((byt a).map lowB)[i]? = some 45 ↔ (byt a)[i]? = some 45 := by
    intro i
    rw [List.getElem?_map]
    cases (byt a)[i]? with
    | none => simp
    | some c => simp [lowB_is 45 (by decide) (by decide)]
  congr 1
  · apply decide_eq_decide.2
    simp only [ne_eq, h45]
  · rw [List.all_map]
    congr 1
    funext b
    exact okB_low b

theorem sizes_3 (a b c : ByteArray) : sizes [a, b, c] = a.size + b.size + c.size := by simp [sizes]; omega

set_option maxHeartbeats 4000000 in
theorem labelTurns_J (L : GH) (a b c : ByteArray) (ha : a.size ≤ 140737488351232) (hb : b.size ≤ 140737488351232) (hc : c.size ≤ 140737488351232) : JF Try.prog 6 [strAV a, strAV b, strAV c] L (fun v L' => v = boolAV true ∧ L' = L) := by
  refine JF.body Try.func6 rfl (by simp [Try.f6]) ?_
  ((repeat (first | refine J.seq ?_ | refine J.block ?_)); refine J.region ?_)
  (repeat refine Go ?_)
  refine JO.nil ?_
  ((repeat (first | refine J.seq ?_ | refine J.block ?_)); refine J.region ?_)
  (repeat (first | refine Go ?_ | refine Go (h := by (first | exact Step.on (h := by (first | (refine Step.call Try.func13 (fit_J _) <;> omega))) | (first | (refine Step.call Try.func13 (fit_J _) <;> omega)) | exact Step.gdT (hv := by (intro hg; have hg2 := hg; (try simp only [Bool.and_eq_true, Bool.not_eq_true'] at hg2); (try simp only [hg, hg2, cond_true, Bool.not_true, Bool.not_false, Bool.true_and, Bool.and_true]); (try simp only [decide_eq_true_eq, decide_eq_false_iff_not] at hg2); (first | (refine Step.call Try.func13 (fit_J _) <;> omega)))) | exact Step.gdF (hv := by (intro hg; have hg2 := hg; (try simp only [Bool.and_eq_true, Bool.not_eq_true'] at hg2); (try simp only [hg, hg2, cond_true, Bool.not_true, Bool.not_false, Bool.true_and, Bool.and_true]); (try simp only [decide_eq_true_eq, decide_eq_false_iff_not] at hg2); (first | (refine Step.call Try.func13 (fit_J _) <;> omega)))) | exact Step.gd2T (hv := by (intro hg; have hg2 := hg; (try simp only [Bool.and_eq_true, Bool.not_eq_true'] at hg2); (try simp only [hg, hg2, cond_true, Bool.not_true, Bool.not_false, Bool.true_and, Bool.and_true]); (try simp only [decide_eq_true_eq, decide_eq_false_iff_not] at hg2); (first | (refine Step.call Try.func13 (fit_J _) <;> omega)))) | exact Step.gd2F (hv := by (intro hg; have hg2 := hg; (try simp only [Bool.and_eq_true, Bool.not_eq_true'] at hg2); (try simp only [hg, hg2, cond_true, Bool.not_true, Bool.not_false, Bool.true_and, Bool.and_true]); (try simp only [decide_eq_true_eq, decide_eq_false_iff_not] at hg2); (first | (refine Step.call Try.func13 (fit_J _) <;> omega)))))) ?_))
  refine JO.nil ?_
  ((repeat (first | refine J.seq ?_ | refine J.block ?_)); refine J.ifF ?_ ?_; (focus ((try simp only [fv, ev, ibin, ishift, sbin, TM.putO, TM.put, tm0, puts, List.getD_cons_zero, List.getD_cons_succ, List.map_cons, List.map_nil, reduceIte, Nat.reduceEqDiff, reduceCtorEq]) <;> rfl)))
  refine J.skip ?_
  ((repeat (first | refine J.seq ?_ | refine J.block ?_)); refine J.region ?_)
  (repeat refine Go ?_)
  refine R.litFz (xs := [.tmp 11, .tmp 12, .tmp 13]) (vs := [strAV a, strAV b, strAV c]) (cs := [strAV a, strAV b, strAV c]) Try.underlying29 TI9 rfl rfl (by simp [strAV, AV.cells, ones, AV.one, Value.oneCell']) (by simp [strAV, AV.cells]) (by omega) rfl rfl ?_
  (repeat (first | refine Go ?_ | refine Go (h := by (first | exact Step.on (h := by (first | (refine Step.call Try.func14 (light_J _ [a, b, c] (by rw [sizes_3]; omega) (by simp)) <;> omega))) | (first | (refine Step.call Try.func14 (light_J _ [a, b, c] (by rw [sizes_3]; omega) (by simp)) <;> omega)) | exact Step.gdT (hv := by (intro hg; have hg2 := hg; (try simp only [Bool.and_eq_true, Bool.not_eq_true'] at hg2); (try simp only [hg, hg2, cond_true, Bool.not_true, Bool.not_false, Bool.true_and, Bool.and_true]); (try simp only [decide_eq_true_eq, decide_eq_false_iff_not] at hg2); (first | (refine Step.call Try.func14 (light_J _ [a, b, c] (by rw [sizes_3]; omega) (by simp)) <;> omega)))) | exact Step.gdF (hv := by (intro hg; have hg2 := hg; (try simp only [Bool.and_eq_true, Bool.not_eq_true'] at hg2); (try simp only [hg, hg2, cond_true, Bool.not_true, Bool.not_false, Bool.true_and, Bool.and_true]); (try simp only [decide_eq_true_eq, decide_eq_false_iff_not] at hg2); (first | (refine Step.call Try.func14 (light_J _ [a, b, c] (by rw [sizes_3]; omega) (by simp)) <;> omega)))) | exact Step.gd2T (hv := by (intro hg; have hg2 := hg; (try simp only [Bool.and_eq_true, Bool.not_eq_true'] at hg2); (try simp only [hg, hg2, cond_true, Bool.not_true, Bool.not_false, Bool.true_and, Bool.and_true]); (try simp only [decide_eq_true_eq, decide_eq_false_iff_not] at hg2); (first | (refine Step.call Try.func14 (light_J _ [a, b, c] (by rw [sizes_3]; omega) (by simp)) <;> omega)))) | exact Step.gd2F (hv := by (intro hg; have hg2 := hg; (try simp only [Bool.and_eq_true, Bool.not_eq_true'] at hg2); (try simp only [hg, hg2, cond_true, Bool.not_true, Bool.not_false, Bool.true_and, Bool.and_true]); (try simp only [decide_eq_true_eq, decide_eq_false_iff_not] at hg2); (first | (refine Step.call Try.func14 (light_J _ [a, b, c] (by rw [sizes_3]; omega) (by simp)) <;> omega)))))) ?_))
  refine JO.nil ?_
  ((repeat (first | refine J.seq ?_ | refine J.block ?_)); refine J.cond (b := ?_) ?_ (fun h => ?_) (fun h => ?_); rotate_left; (focus ((try simp only [fv, ev, ibin, ishift, sbin, TM.putO, TM.put, tm0, puts, List.getD_cons_zero, List.getD_cons_succ, List.map_cons, List.map_nil, reduceIte, Nat.reduceEqDiff, reduceCtorEq]) <;> rfl)))
  · ((repeat (first | refine J.seq ?_ | refine J.block ?_)); refine J.region ?_)
    (repeat refine Go ?_)
    refine JO.nil ?_
    exact J.ret ⟨_, rfl, rfl, rfl⟩
  · refine J.skip ?_
    have hl : a.size + b.size + c.size ≤ 600 := by rw [sizes_3] at h; simpa using h
    have hla := lower_size a
    have hlb := lower_size b
    refine J.keep [(0, strAV a), (1, strAV b), (2, strAV c)] ⟨rfl, rfl, rfl, trivial⟩ fun t => ?_
    ((repeat (first | refine J.seq ?_ | refine J.block ?_)); refine J.region ?_)
    (repeat refine Go ?_)
    refine JO.nil ?_
    ((repeat (first | refine J.seq ?_ | refine J.block ?_)); refine J.cond (b := ?_) ?_ (fun h => ?_) (fun h => ?_); rotate_left; (focus ((try simp only [fv, ev, ibin, ishift, sbin, TM.putO, TM.put, tm0, puts, List.getD_cons_zero, List.getD_cons_succ, List.map_cons, List.map_nil, reduceIte, Nat.reduceEqDiff, reduceCtorEq]) <;> rfl)))
    · ((repeat (first | refine J.seq ?_ | refine J.block ?_)); refine J.region ?_)
      (repeat refine Go ?_)
      refine JO.nil ?_
      exact J.ret ⟨_, rfl, rfl, rfl⟩
    · have hbd : b ≠ ofBytes [46] := of_decide_eq_false h
      refine J.skip ?_
      ((repeat (first | refine J.seq ?_ | refine J.block ?_)); refine J.region ?_)
      (repeat (first | refine Go ?_ | refine Go (h := by (first | exact Step.on (h := by (first | (refine Step.call Try.func16 (under_J _ _ _ ?_ ?_) <;> omega) | (refine Step.call Try.func15 (lower_J _ _ ?_) <;> omega) | (refine JO.neBool Try.underlying4 rfl rfl rfl ?_))) | (first | (refine Step.call Try.func16 (under_J _ _ _ ?_ ?_) <;> omega) | (refine Step.call Try.func15 (lower_J _ _ ?_) <;> omega) | (refine JO.neBool Try.underlying4 rfl rfl rfl ?_)) | exact Step.gdT (hv := by (intro hg; have hg2 := hg; (try simp only [Bool.and_eq_true, Bool.not_eq_true'] at hg2); (try simp only [hg, hg2, cond_true, Bool.not_true, Bool.not_false, Bool.true_and, Bool.and_true]); (try simp only [decide_eq_true_eq, decide_eq_false_iff_not] at hg2); (first | (refine Step.call Try.func16 (under_J _ _ _ ?_ ?_) <;> omega) | (refine Step.call Try.func15 (lower_J _ _ ?_) <;> omega) | (refine JO.neBool Try.underlying4 rfl rfl rfl ?_)))) | exact Step.gdF (hv := by (intro hg; have hg2 := hg; (try simp only [Bool.and_eq_true, Bool.not_eq_true'] at hg2); (try simp only [hg, hg2, cond_true, Bool.not_true, Bool.not_false, Bool.true_and, Bool.and_true]); (try simp only [decide_eq_true_eq, decide_eq_false_iff_not] at hg2); (first | (refine Step.call Try.func16 (under_J _ _ _ ?_ ?_) <;> omega) | (refine Step.call Try.func15 (lower_J _ _ ?_) <;> omega) | (refine JO.neBool Try.underlying4 rfl rfl rfl ?_)))) | exact Step.gd2T (hv := by (intro hg; have hg2 := hg; (try simp only [Bool.and_eq_true, Bool.not_eq_true'] at hg2); (try simp only [hg, hg2, cond_true, Bool.not_true, Bool.not_false, Bool.true_and, Bool.and_true]); (try simp only [decide_eq_true_eq, decide_eq_false_iff_not] at hg2); (first | (refine Step.call Try.func16 (under_J _ _ _ ?_ ?_) <;> omega) | (refine Step.call Try.func15 (lower_J _ _ ?_) <;> omega) | (refine JO.neBool Try.underlying4 rfl rfl rfl ?_)))) | exact Step.gd2F (hv := by (intro hg; have hg2 := hg; (try simp only [Bool.and_eq_true, Bool.not_eq_true'] at hg2); (try simp only [hg, hg2, cond_true, Bool.not_true, Bool.not_false, Bool.true_and, Bool.and_true]); (try simp only [decide_eq_true_eq, decide_eq_false_iff_not] at hg2); (first | (refine Step.call Try.func16 (under_J _ _ _ ?_ ?_) <;> omega) | (refine Step.call Try.func15 (lower_J _ _ ?_) <;> omega) | (refine JO.neBool Try.underlying4 rfl rfl rfl ?_)))))) ?_))
      refine JO.nil ?_
      rw [under_lower]
      ((repeat (first | refine J.seq ?_ | refine J.block ?_)); refine J.cond (b := ?_) ?_ (fun h => ?_) (fun h => ?_); rotate_left; (focus ((try simp only [fv, ev, ibin, ishift, sbin, TM.putO, TM.put, tm0, puts, List.getD_cons_zero, List.getD_cons_succ, List.map_cons, List.map_nil, reduceIte, Nat.reduceEqDiff, reduceCtorEq]) <;> rfl)))
      · simp at h
      · refine J.skip ?_
        refine J.keep [(0, strAV a), (1, strAV b), (2, strAV c)] ⟨rfl, rfl, rfl, trivial⟩ fun t => ?_
        ((repeat (first | refine J.seq ?_ | refine J.block ?_)); refine J.region ?_)
        (repeat refine Go ?_)
        refine JO.nil ?_
        have hx := under_dot a b
        have hy := under_dot (a ++ ofBytes [46] ++ b) c
        generalize hX : a ++ ofBytes [46] ++ b = X at hx hy
        generalize hY : X ++ ofBytes [46] ++ c = Y at hy
        have hXs : X.size = a.size + 1 + b.size := by rw [← hX]; simp [ByteArray.size_append]; rfl
        have hYs : Y.size = X.size + 1 + c.size := by rw [← hY]; simp [ByteArray.size_append]; rfl
        refine J.keep [(0, strAV a), (1, strAV b), (2, strAV c), (7, strAV X), (8, strAV Y)] ⟨rfl, rfl, rfl, ?_, ?_, trivial⟩ fun t => ?_
        · rw [← hX]; rfl
        · rw [← hY, ← hX]; rfl
        ((repeat (first | refine J.seq ?_ | refine J.block ?_)); refine J.region ?_)
        (repeat (first | refine Go ?_ | refine Go (h := by (first | exact Step.on (h := by (first | (refine Step.call Try.func16 (under_J _ _ _ ?_ ?_) <;> omega) | (refine Step.call Try.func17 (right_J _ _ ?_) <;> omega) | (refine Step.call Try.func15 (lower_J _ _ ?_) <;> omega) | (refine JO.eqBool Try.underlying4 rfl rfl rfl ?_))) | (first | (refine Step.call Try.func16 (under_J _ _ _ ?_ ?_) <;> omega) | (refine Step.call Try.func17 (right_J _ _ ?_) <;> omega) | (refine Step.call Try.func15 (lower_J _ _ ?_) <;> omega) | (refine JO.eqBool Try.underlying4 rfl rfl rfl ?_)) | exact Step.gdT (hv := by (intro hg; have hg2 := hg; (try simp only [Bool.and_eq_true, Bool.not_eq_true'] at hg2); (try simp only [hg, hg2, cond_true, Bool.not_true, Bool.not_false, Bool.true_and, Bool.and_true]); (try simp only [decide_eq_true_eq, decide_eq_false_iff_not] at hg2); (first | (refine Step.call Try.func16 (under_J _ _ _ ?_ ?_) <;> omega) | (refine Step.call Try.func17 (right_J _ _ ?_) <;> omega) | (refine Step.call Try.func15 (lower_J _ _ ?_) <;> omega) | (refine JO.eqBool Try.underlying4 rfl rfl rfl ?_)))) | exact Step.gdF (hv := by (intro hg; have hg2 := hg; (try simp only [Bool.and_eq_true, Bool.not_eq_true'] at hg2); (try simp only [hg, hg2, cond_true, Bool.not_true, Bool.not_false, Bool.true_and, Bool.and_true]); (try simp only [decide_eq_true_eq, decide_eq_false_iff_not] at hg2); (first | (refine Step.call Try.func16 (under_J _ _ _ ?_ ?_) <;> omega) | (refine Step.call Try.func17 (right_J _ _ ?_) <;> omega) | (refine Step.call Try.func15 (lower_J _ _ ?_) <;> omega) | (refine JO.eqBool Try.underlying4 rfl rfl rfl ?_)))) | exact Step.gd2T (hv := by (intro hg; have hg2 := hg; (try simp only [Bool.and_eq_true, Bool.not_eq_true'] at hg2); (try simp only [hg, hg2, cond_true, Bool.not_true, Bool.not_false, Bool.true_and, Bool.and_true]); (try simp only [decide_eq_true_eq, decide_eq_false_iff_not] at hg2); (first | (refine Step.call Try.func16 (under_J _ _ _ ?_ ?_) <;> omega) | (refine Step.call Try.func17 (right_J _ _ ?_) <;> omega) | (refine Step.call Try.func15 (lower_J _ _ ?_) <;> omega) | (refine JO.eqBool Try.underlying4 rfl rfl rfl ?_)))) | exact Step.gd2F (hv := by (intro hg; have hg2 := hg; (try simp only [Bool.and_eq_true, Bool.not_eq_true'] at hg2); (try simp only [hg, hg2, cond_true, Bool.not_true, Bool.not_false, Bool.true_and, Bool.and_true]); (try simp only [decide_eq_true_eq, decide_eq_false_iff_not] at hg2); (first | (refine Step.call Try.func16 (under_J _ _ _ ?_ ?_) <;> omega) | (refine Step.call Try.func17 (right_J _ _ ?_) <;> omega) | (refine Step.call Try.func15 (lower_J _ _ ?_) <;> omega) | (refine JO.eqBool Try.underlying4 rfl rfl rfl ?_)))))) ?_))
        refine JO.nil ?_
        refine J.ret ⟨_, rfl, ?_, rfl⟩
        have ht := under_trans a b c hbd
        rw [right_lower, hx, hy]
        simp only [fv, ev, ibin, ishift, sbin, TM.putO, TM.put, tm0, puts, List.getD_cons_zero, List.getD_cons_succ, List.map_cons, List.map_nil, reduceIte, Nat.reduceEqDiff, reduceCtorEq, boolAV, out1, beq_self_eq_true]
        cases h1 : under a b <;> cases h2 : under b c <;> cases h3 : under a c <;> simp_all
end Go.Proofs.YtljgkjkdmoejfaaAv
