/- The statement LabelRight, walked: it is true of every input. -/
import Derived.Test.YtljgkjkdmoejfaaLbRight
import Derived.Test.YtljgkjkdmoejfaaAvAuto
set_option linter.unusedVariables false
set_option linter.unusedSimpArgs false
namespace Go.Proofs.YtljgkjkdmoejfaaAv
open Go Go.RowKit

/-- What the statement asks of the sign at i of n. -/
def okAt (n : Nat) (i : Nat) (b : UInt8) : Bool := letter b || digitB b || decide (b = 95) || (decide (b = 45) && decide (0 < i) && decide (i < n - 1))
def okUpTo (s : ByteArray) (i : Nat) : Bool := (List.range i).all fun j => okAt s.size j ((byt s).getD j 0)

theorem okUpTo_succ (s : ByteArray) (i : Nat) (h : i < (byt s).length) : okUpTo s (i + 1) = (okUpTo s i && okAt s.size i (byt s)[i]) := by
  unfold okUpTo
  rw [List.range_succ, List.all_append]
  simp [List.getD_eq_getElem?_getD, h]

def wA (s : ByteArray) : Bool := decide (1 ≤ s.size) && decide (s.size ≤ 63)
theorem cond_and (a b : Bool) : (bif a then b else false) = (a && b) := by cases a <;> rfl
theorem u8_eq (c : UInt8) (k : Nat) (h : k < 256) : ((c.toNat : Int) == (k : Int)) = decide (c = UInt8.ofNat k) := by
  rw [Bool.eq_iff_iff]
  simp only [beq_iff_eq, decide_eq_true_eq]
  constructor
  · intro e
    apply UInt8.toNat_inj.1
    rw [UInt8.toNat_ofNat']
    omega
  · rintro rfl
    rw [UInt8.toNat_ofNat']
    omega
theorem okAt_eq (n i : Nat) (c : UInt8) (h : 1 ≤ n) : (decide ((c.toNat : Int) ≥ 97) && decide ((c.toNat : Int) ≤ 122) || decide ((c.toNat : Int) ≥ 65) && decide ((c.toNat : Int) ≤ 90) || decide ((c.toNat : Int) ≥ 48) && decide ((c.toNat : Int) ≤ 57) ||
    ((c.toNat : Int) == 95) || ((c.toNat : Int) == 45) && decide ((i : Int) > 0) && decide ((i : Int) < (n : Int) - 1)) = okAt n i c := by
  unfold okAt letter digitB
  rw [show ((c.toNat : Int) == 95) = decide (c = 95) from u8_eq c 95 (by omega), show ((c.toNat : Int) == 45) = decide (c = 45) from u8_eq c 45 (by omega)]
  congr 1
  · congr 2
    · congr 1
      · congr 1 <;> exact decide_eq_decide.2 (by omega)
      · congr 1 <;> exact decide_eq_decide.2 (by omega)
    · congr 1 <;> exact decide_eq_decide.2 (by omega)
  · congr 1
    · congr 1
      exact decide_eq_decide.2 (by omega)
    · exact decide_eq_decide.2 (by omega)
theorem right_eq (s : ByteArray) : right s = (wA s && okUpTo s s.size) := by
  rw [Bool.eq_iff_iff]
  unfold right wA okUpTo
  simp only [Bool.and_eq_true, decide_eq_true_eq, List.all_eq_true, List.mem_range]
  constructor
  · rintro ⟨⟨h0, h63, hf, hl⟩, hall⟩
    refine ⟨⟨by omega, h63⟩, fun i hi => ?_⟩
    have hlb : i < (byt s).length := by rw [byt_length]; exact hi
    have hok := hall _ (List.getElem_mem hlb)
    have e : (byt s).getD i 0 = (byt s)[i] := by simp [List.getD_eq_getElem?_getD, hlb]
    rw [e]
    generalize hc : (byt s)[i] = c at *
    unfold okB at hok
    unfold okAt
    by_cases h45 : c = 45
    · have hi0 : 0 < i := by
        rcases Nat.eq_zero_or_pos i with rfl | h
        · exact absurd (by rw [List.getElem?_eq_getElem hlb, hc, h45]) hf
        · exact h
      have hi1 : i < s.size - 1 := by
        rcases Nat.lt_or_ge i (s.size - 1) with h | h
        · exact h
        · obtain rfl : i = s.size - 1 := by omega
          exact absurd (by rw [List.getElem?_eq_getElem hlb, hc, h45]) hl
      simp [h45, hi0, hi1]
    · simp only [h45, decide_false, Bool.or_false, Bool.false_and] at hok ⊢
      simp only [Bool.or_eq_true] at hok ⊢
      rcases hok with (h | h) | h
      · exact .inl (.inr h)
      · exact .inr h
      · exact .inl (.inl h)
  · rintro ⟨⟨h1, h63⟩, hall⟩
    have hg : ∀ i (hi : i < (byt s).length), okAt s.size i (byt s)[i] = true := fun i hi => by
      have := hall i (by rw [byt_length] at hi; exact hi)
      rwa [show (byt s).getD i 0 = (byt s)[i] by simp [List.getD_eq_getElem?_getD, hi]] at this
    have hn : ∀ i, (i = 0 ∨ i = s.size - 1) → (byt s)[i]? ≠ some 45 := by
      intro i hi e
      obtain ⟨hlb, hc⟩ := List.getElem?_eq_some_iff.1 e
      have := hg i hlb
      rw [hc] at this
      have : (decide (0 < i) && decide (i < s.size - 1)) = true := by
        simpa [okAt, letter, digitB] using this
      simp only [Bool.and_eq_true, decide_eq_true_eq] at this
      omega
    refine ⟨⟨by omega, h63, hn 0 (.inl rfl), hn _ (.inr rfl)⟩, fun c hc => ?_⟩
    obtain ⟨i, hi, rfl⟩ := List.getElem_of_mem hc
    have := hg i hi
    unfold okAt at this
    unfold okB
    simp only [Bool.or_eq_true, Bool.and_eq_true] at this ⊢
    rcases this with ((h | h) | h) | ⟨⟨h, _⟩, _⟩
    · exact .inr h
    · exact .inl (.inl (.inl h))
    · exact .inl (.inr h)
    · exact .inl (.inl (.inr h))
theorem sizes_1 (a : ByteArray) : sizes [a] = a.size := by simp [sizes]

set_option maxHeartbeats 4000000 in
theorem labelRight_J (L : GH) (s : ByteArray) (hs : s.size ≤ 140737488351232) : JF Try.prog 5 [strAV s] L (fun v L' => v = boolAV true ∧ L' = L) := by
  refine JF.body Try.func5 rfl (by simp [Try.f5]) ?_
  ((repeat (first | refine J.seq ?_ | refine J.block ?_)); refine J.region ?_)
  (repeat refine Go ?_)
  refine JO.nil ?_
  ((repeat (first | refine J.seq ?_ | refine J.block ?_)); refine J.region ?_)
  (repeat (first | refine Go ?_ | refine Go (h := by (first | exact Step.on (h := by (first | (refine Step.call Try.func13 (fit_J _) <;> omega))) | (first | (refine Step.call Try.func13 (fit_J _) <;> omega)) | exact Step.gdT (hv := by (intro hg; have hg2 := hg; (try simp only [Bool.and_eq_true, Bool.not_eq_true'] at hg2); (try simp only [hg, hg2, cond_true, Bool.not_true, Bool.not_false, Bool.true_and, Bool.and_true]); (try simp only [decide_eq_true_eq, decide_eq_false_iff_not] at hg2); (first | (refine Step.call Try.func13 (fit_J _) <;> omega)))) | exact Step.gdF (hv := by (intro hg; have hg2 := hg; (try simp only [Bool.and_eq_true, Bool.not_eq_true'] at hg2); (try simp only [hg, hg2, cond_true, Bool.not_true, Bool.not_false, Bool.true_and, Bool.and_true]); (try simp only [decide_eq_true_eq, decide_eq_false_iff_not] at hg2); (first | (refine Step.call Try.func13 (fit_J _) <;> omega)))) | exact Step.gd2T (hv := by (intro hg; have hg2 := hg; (try simp only [Bool.and_eq_true, Bool.not_eq_true'] at hg2); (try simp only [hg, hg2, cond_true, Bool.not_true, Bool.not_false, Bool.true_and, Bool.and_true]); (try simp only [decide_eq_true_eq, decide_eq_false_iff_not] at hg2); (first | (refine Step.call Try.func13 (fit_J _) <;> omega)))) | exact Step.gd2F (hv := by (intro hg; have hg2 := hg; (try simp only [Bool.and_eq_true, Bool.not_eq_true'] at hg2); (try simp only [hg, hg2, cond_true, Bool.not_true, Bool.not_false, Bool.true_and, Bool.and_true]); (try simp only [decide_eq_true_eq, decide_eq_false_iff_not] at hg2); (first | (refine Step.call Try.func13 (fit_J _) <;> omega)))))) ?_))
  refine JO.nil ?_
  ((repeat (first | refine J.seq ?_ | refine J.block ?_)); refine J.ifF ?_ ?_; (focus ((try simp only [fv, ev, ibin, ishift, sbin, TM.putO, TM.put, tm0, puts, List.getD_cons_zero, List.getD_cons_succ, List.map_cons, List.map_nil, reduceIte, Nat.reduceEqDiff, reduceCtorEq]) <;> rfl)))
  refine J.skip ?_
  ((repeat (first | refine J.seq ?_ | refine J.block ?_)); refine J.region ?_)
  (repeat refine Go ?_)
  refine R.litFz (xs := [.tmp 9]) (vs := [strAV s]) (cs := [strAV s]) Try.underlying29 TI9 rfl rfl (by simp [strAV, AV.cells, ones, AV.one, Value.oneCell']) (by simp [strAV, AV.cells]) (by omega) rfl rfl ?_
  (repeat (first | refine Go ?_ | refine Go (h := by (first | exact Step.on (h := by (first | (refine Step.call Try.func14 (light_J _ [s] (by rw [sizes_1]; omega) (by simp)) <;> omega))) | (first | (refine Step.call Try.func14 (light_J _ [s] (by rw [sizes_1]; omega) (by simp)) <;> omega)) | exact Step.gdT (hv := by (intro hg; have hg2 := hg; (try simp only [Bool.and_eq_true, Bool.not_eq_true'] at hg2); (try simp only [hg, hg2, cond_true, Bool.not_true, Bool.not_false, Bool.true_and, Bool.and_true]); (try simp only [decide_eq_true_eq, decide_eq_false_iff_not] at hg2); (first | (refine Step.call Try.func14 (light_J _ [s] (by rw [sizes_1]; omega) (by simp)) <;> omega)))) | exact Step.gdF (hv := by (intro hg; have hg2 := hg; (try simp only [Bool.and_eq_true, Bool.not_eq_true'] at hg2); (try simp only [hg, hg2, cond_true, Bool.not_true, Bool.not_false, Bool.true_and, Bool.and_true]); (try simp only [decide_eq_true_eq, decide_eq_false_iff_not] at hg2); (first | (refine Step.call Try.func14 (light_J _ [s] (by rw [sizes_1]; omega) (by simp)) <;> omega)))) | exact Step.gd2T (hv := by (intro hg; have hg2 := hg; (try simp only [Bool.and_eq_true, Bool.not_eq_true'] at hg2); (try simp only [hg, hg2, cond_true, Bool.not_true, Bool.not_false, Bool.true_and, Bool.and_true]); (try simp only [decide_eq_true_eq, decide_eq_false_iff_not] at hg2); (first | (refine Step.call Try.func14 (light_J _ [s] (by rw [sizes_1]; omega) (by simp)) <;> omega)))) | exact Step.gd2F (hv := by (intro hg; have hg2 := hg; (try simp only [Bool.and_eq_true, Bool.not_eq_true'] at hg2); (try simp only [hg, hg2, cond_true, Bool.not_true, Bool.not_false, Bool.true_and, Bool.and_true]); (try simp only [decide_eq_true_eq, decide_eq_false_iff_not] at hg2); (first | (refine Step.call Try.func14 (light_J _ [s] (by rw [sizes_1]; omega) (by simp)) <;> omega)))))) ?_))
  refine JO.nil ?_
  ((repeat (first | refine J.seq ?_ | refine J.block ?_)); refine J.cond (b := ?_) ?_ (fun h => ?_) (fun h => ?_); rotate_left; (focus ((try simp only [fv, ev, ibin, ishift, sbin, TM.putO, TM.put, tm0, puts, List.getD_cons_zero, List.getD_cons_succ, List.map_cons, List.map_nil, reduceIte, Nat.reduceEqDiff, reduceCtorEq]) <;> rfl)))
  · ((repeat (first | refine J.seq ?_ | refine J.block ?_)); refine J.region ?_)
    (repeat refine Go ?_)
    refine JO.nil ?_
    exact J.ret ⟨_, rfl, rfl, rfl⟩
  · refine J.skip ?_
    have hl : s.size ≤ 600 := by rw [sizes_1] at h; simpa using h
    ((repeat (first | refine J.seq ?_ | refine J.block ?_)); refine J.region ?_)
    (repeat refine Go ?_)
    refine JO.nil ?_
    ((repeat (first | refine J.seq ?_ | refine J.block ?_)); refine J.region ?_)
    (repeat refine Go ?_)
    refine JO.toBytes Try.underlying9 Try.underlying27 Try.underlying5 rfl rfl fun g hg => ?_
    (repeat refine Go ?_)
    refine JO.nil ?_
    (repeat (first | refine J.seq ?_ | refine J.block ?_))
    refine J.loopS (σ := Nat) (fun i => [(0, strAV s), (3, boolAV (wA s && okUpTo s i)), (22, .sl g 1 0 s.size), (23, intAV s.size), (24, intAV i)]) (fun i => upd L g ⟨5, false, (byt s).map byteAV⟩) (fun i => i ≤ s.size) (fun i => s.size - i) 0 (Nat.zero_le _) ⟨rfl, ?_, rfl, rfl, rfl, trivial⟩ ?_ ?_
    · simp only [fv, ev, ibin, ishift, sbin, TM.putO, TM.put, tm0, puts, List.getD_cons_zero, List.getD_cons_succ, List.map_cons, List.map_nil, reduceIte, Nat.reduceEqDiff, reduceCtorEq, okUpTo, boolAV, wA, List.range_zero, List.all_nil, Bool.and_true, cond_and, ge_iff_le]
      congr 3 <;> (apply decide_eq_decide.2; omega)
    · rfl
    intro i t hi
    ((repeat (first | refine J.seq ?_ | refine J.block ?_)); refine J.region ?_)
    (repeat refine Go ?_)
    refine JO.nil ?_
    ((repeat (first | refine J.seq ?_ | refine J.block ?_)); refine J.cond (b := ?_) ?_ (fun h => ?_) (fun h => ?_); rotate_left; (focus ((try simp only [fv, ev, ibin, ishift, sbin, TM.putO, TM.put, tm0, puts, List.getD_cons_zero, List.getD_cons_succ, List.map_cons, List.map_nil, reduceIte, Nat.reduceEqDiff, reduceCtorEq]) <;> rfl)))
    · have hlt : i < s.size := by have := of_decide_eq_true h; omega
      have hlb : i < (byt s).length := by rw [byt_length]; exact hlt
      refine J.skip ?_
      ((repeat (first | refine J.seq ?_ | refine J.block ?_)); refine J.region ?_)
      (repeat refine Go ?_)
      refine R.idxSl1 (j := i) Try.underlying27 TI5 rfl rfl rfl hlt ?_
      refine JO.ldOwn (v := byteAV (byt s)[i]) Try.underlying5 rfl rfl (upd_same _ _ _) (by simp [hlb]) rfl ?_
      (repeat refine Go ?_)
      refine JO.nil ?_
      have hsu := okUpTo_succ s i hlb
      generalize hc : (byt s)[i] = c at *
      ((repeat (first | refine J.seq ?_ | refine J.block ?_)); refine J.region ?_)
      (repeat refine Go ?_)
      refine JO.nil ?_
      ((repeat (first | refine J.seq ?_ | refine J.block ?_)); refine J.region ?_)
      (repeat refine Go ?_)
      refine JO.nil ?_
      ((repeat (first | refine J.seq ?_ | refine J.block ?_)); refine J.region ?_)
      (repeat refine Go ?_)
      refine JO.nil ?_
      refine ⟨i + 1, by omega, by omega, ⟨rfl, ?_, rfl, rfl, rfl, trivial⟩, rfl⟩
      simp only [fv, ev, ibin, ishift, sbin, TM.putO, TM.put, tm0, puts, List.getD_cons_zero, List.getD_cons_succ, List.map_cons, List.map_nil, reduceIte, Nat.reduceEqDiff, reduceCtorEq, boolAV]
      rw [okUpTo_succ s i hlb, hc, ← Bool.and_assoc]
      congr 3
      exact okAt_eq s.size i c (by omega)
    · have hge : i = s.size := by have := of_decide_eq_false h; omega
      subst hge
      refine J.exit ?_
      refine J.pop hg ?_
      have hR := right_eq s
      ((repeat (first | refine J.seq ?_ | refine J.block ?_)); refine J.region ?_)
      (repeat (first | refine Go ?_ | refine Go (h := by (first | exact Step.on (h := by (first | (refine Step.call Try.func17 (right_J _ _ ?_) <;> omega) | (refine JO.eqBool Try.underlying4 rfl rfl rfl ?_))) | (first | (refine Step.call Try.func17 (right_J _ _ ?_) <;> omega) | (refine JO.eqBool Try.underlying4 rfl rfl rfl ?_)) | exact Step.gdT (hv := by (intro hg; have hg2 := hg; (try simp only [Bool.and_eq_true, Bool.not_eq_true'] at hg2); (try simp only [hg, hg2, cond_true, Bool.not_true, Bool.not_false, Bool.true_and, Bool.and_true]); (try simp only [decide_eq_true_eq, decide_eq_false_iff_not] at hg2); (first | (refine Step.call Try.func17 (right_J _ _ ?_) <;> omega) | (refine JO.eqBool Try.underlying4 rfl rfl rfl ?_)))) | exact Step.gdF (hv := by (intro hg; have hg2 := hg; (try simp only [Bool.and_eq_true, Bool.not_eq_true'] at hg2); (try simp only [hg, hg2, cond_true, Bool.not_true, Bool.not_false, Bool.true_and, Bool.and_true]); (try simp only [decide_eq_true_eq, decide_eq_false_iff_not] at hg2); (first | (refine Step.call Try.func17 (right_J _ _ ?_) <;> omega) | (refine JO.eqBool Try.underlying4 rfl rfl rfl ?_)))) | exact Step.gd2T (hv := by (intro hg; have hg2 := hg; (try simp only [Bool.and_eq_true, Bool.not_eq_true'] at hg2); (try simp only [hg, hg2, cond_true, Bool.not_true, Bool.not_false, Bool.true_and, Bool.and_true]); (try simp only [decide_eq_true_eq, decide_eq_false_iff_not] at hg2); (first | (refine Step.call Try.func17 (right_J _ _ ?_) <;> omega) | (refine JO.eqBool Try.underlying4 rfl rfl rfl ?_)))) | exact Step.gd2F (hv := by (intro hg; have hg2 := hg; (try simp only [Bool.and_eq_true, Bool.not_eq_true'] at hg2); (try simp only [hg, hg2, cond_true, Bool.not_true, Bool.not_false, Bool.true_and, Bool.and_true]); (try simp only [decide_eq_true_eq, decide_eq_false_iff_not] at hg2); (first | (refine Step.call Try.func17 (right_J _ _ ?_) <;> omega) | (refine JO.eqBool Try.underlying4 rfl rfl rfl ?_)))))) ?_))
      refine JO.nil ?_
      refine J.ret ⟨_, rfl, ?_, rfl⟩
      rw [hR]
      simp [fv, ev, ibin, ishift, sbin, TM.putO, TM.put, tm0, puts, List.getD_cons_zero, List.getD_cons_succ, List.map_cons, List.map_nil, reduceIte, Nat.reduceEqDiff, reduceCtorEq, boolAV, out1]
end Go.Proofs.YtljgkjkdmoejfaaAv
