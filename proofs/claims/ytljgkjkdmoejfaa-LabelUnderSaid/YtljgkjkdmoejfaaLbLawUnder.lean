/- The statement LabelUnder, walked: it is true of every input. -/
import Derived.Test.YtljgkjkdmoejfaaLbPure
set_option linter.unusedVariables false
set_option linter.unusedSimpArgs false
namespace Go.Proofs.YtljgkjkdmoejfaaAv
open Go Go.RowKit

theorem sizes_two (a d : ByteArray) : sizes [a, d] = a.size + d.size := by simp [sizes]
theorem sizes_one (a : ByteArray) : sizes [a] = a.size := by simp [sizes]

/-- What the statement asks of a name and a domain. -/
def wantUnder (a d : ByteArray) : Bool := decide (d = ofBytes [46]) || (decide (lower a = lower d) || (decide ((lower d).size < (lower a).size) && decide ((lower a).extract ((lower a).size - (lower d).size - 1) (lower a).size = ofBytes [46] ++ lower d)))

theorem wantUnder_eq (a d : ByteArray) : under a d = wantUnder a d := by
  unfold under wantUnder
  congr 1
  rw [Bool.eq_iff_iff, endsWith_iff]
  simp only [Bool.or_eq_true, Bool.and_eq_true, decide_eq_true_eq]
  generalize lower a = x
  generalize lower d = y
  constructor
  · rintro (h | ⟨z, h⟩)
    · exact .inl (byt_inj h)
    · right
      have hl := congrArg List.length h
      simp only [List.length_append, List.length_cons, byt_length] at hl
      refine ⟨by omega, byt_inj ?_⟩
      rw [byt_cut, byt_append, byt_of, List.take_of_length_le (by rw [byt_length]; exact Nat.le_refl _), h]
      have : x.size - y.size - 1 = z.length := by omega
      rw [this]
      simp
  · rintro (h | ⟨hlt, h⟩)
    · rw [h]; exact .inl rfl
    · right
      have hb := congrArg byt h
      rw [byt_cut, byt_append, byt_of, List.take_of_length_le (by rw [byt_length]; exact Nat.le_refl _)] at hb
      refine ⟨(byt x).take (x.size - y.size - 1), ?_⟩
      conv => lhs; rw [← List.take_append_drop (x.size - y.size - 1) (byt x), hb]
      rfl

theorem under_self (a : ByteArray) : under a a = true := by
  unfold under
  rw [(endsWith_iff (lower a) (lower a)).2 (.inl rfl)]
  simp
theorem under_root (a : ByteArray) : under a (ofBytes [46]) = true := by simp [under]

theorem labelUnder_J (L : GH) (a d : ByteArray) (ha : a.size ≤ 140737488351232) (hd : d.size ≤ 140737488351232) : JF Try.prog 4 [strAV a, strAV d] L (fun v L' => v = boolAV true ∧ L' = L) := by
  refine JF.body Try.func4 rfl (by simp [Try.f4]) ?_
  ((repeat (first | refine J.seq ?_ | refine J.block ?_)); refine J.region ?_)
  (refine JO.pure (v := ?_) ?_ rfl ?_; rotate_left; (focus ((try simp only [fv, ev, ibin, ishift, sbin, TM.putO, TM.put, tm0, puts, List.getD_cons_zero, List.getD_cons_succ, List.map_cons, List.map_nil, reduceIte, Nat.reduceEqDiff, reduceCtorEq]) <;> rfl)))
  refine JO.nil ?_
  ((repeat (first | refine J.seq ?_ | refine J.block ?_)); refine J.region ?_)
  refine JO.call (xs := []) Try.func13 rfl (by decide) rfl (fit_J L) ?_
  rintro v L' ⟨rfl, rfl⟩
  (refine JO.pure (v := ?_) ?_ rfl ?_; rotate_left; (focus ((try simp only [fv, ev, ibin, ishift, sbin, TM.putO, TM.put, tm0, puts, List.getD_cons_zero, List.getD_cons_succ, List.map_cons, List.map_nil, reduceIte, Nat.reduceEqDiff, reduceCtorEq]) <;> rfl)))
  refine JO.nil ?_
  ((repeat (first | refine J.seq ?_ | refine J.block ?_)); refine J.ifF ?_ ?_; (focus ((try simp only [fv, ev, ibin, ishift, sbin, TM.putO, TM.put, tm0, puts, List.getD_cons_zero, List.getD_cons_succ, List.map_cons, List.map_nil, reduceIte, Nat.reduceEqDiff, reduceCtorEq]) <;> rfl)))
  refine J.skip ?_
  ((repeat (first | refine J.seq ?_ | refine J.block ?_)); refine J.region ?_)
  iterate 2 (refine JO.pure (v := ?_) ?_ rfl ?_; rotate_left; (focus ((try simp only [fv, ev, ibin, ishift, sbin, TM.putO, TM.put, tm0, puts, List.getD_cons_zero, List.getD_cons_succ, List.map_cons, List.map_nil, reduceIte, Nat.reduceEqDiff, reduceCtorEq]) <;> rfl)))
  refine R.litFz (xs := [.tmp 10, .tmp 11]) (vs := [strAV a, strAV d]) (cs := [strAV a, strAV d]) Try.underlying29 TI9 rfl rfl (by simp [strAV, AV.cells, ones, AV.one, Value.oneCell']) (by simp [strAV, AV.cells]) (by omega) rfl rfl ?_
  refine JO.call (xs := [.tmp 12]) Try.func14 rfl (by decide) rfl (light_J _ [a, d] (by rw [sizes_two]; omega) (by simp)) ?_
  rintro v L' ⟨rfl, rfl⟩
  rw [sizes_two]
  by_cases hl : a.size + d.size ≤ 600
  · (refine JO.pureB (c := ?_) false ?_ ?_ rfl ?_; rotate_left; (focus ((try simp only [fv, ev, ibin, ishift, sbin, TM.putO, TM.put, tm0, puts, List.getD_cons_zero, List.getD_cons_succ, List.map_cons, List.map_nil, reduceIte, Nat.reduceEqDiff, reduceCtorEq]) <;> rfl)); (focus (simp [hl])))
    refine JO.nil ?_
    ((repeat (first | refine J.seq ?_ | refine J.block ?_)); refine J.ifF ?_ ?_; (focus ((try simp only [fv, ev, ibin, ishift, sbin, TM.putO, TM.put, tm0, puts, List.getD_cons_zero, List.getD_cons_succ, List.map_cons, List.map_nil, reduceIte, Nat.reduceEqDiff, reduceCtorEq]) <;> rfl)))
    refine J.skip ?_
    ((repeat (first | refine J.seq ?_ | refine J.block ?_)); refine J.region ?_)
    (refine JO.pure (v := ?_) ?_ rfl ?_; rotate_left; (focus ((try simp only [fv, ev, ibin, ishift, sbin, TM.putO, TM.put, tm0, puts, List.getD_cons_zero, List.getD_cons_succ, List.map_cons, List.map_nil, reduceIte, Nat.reduceEqDiff, reduceCtorEq]) <;> rfl)))
    refine JO.call (xs := [.tmp 15]) Try.func15 rfl (by decide) rfl (lower_J _ a (by omega)) ?_
    rintro v L' ⟨rfl, rfl⟩
    (refine JO.pure (v := ?_) ?_ rfl ?_; rotate_left; (focus ((try simp only [fv, ev, ibin, ishift, sbin, TM.putO, TM.put, tm0, puts, List.getD_cons_zero, List.getD_cons_succ, List.map_cons, List.map_nil, reduceIte, Nat.reduceEqDiff, reduceCtorEq]) <;> rfl)))
    refine JO.call (xs := [.tmp 17]) Try.func15 rfl (by decide) rfl (lower_J _ d (by omega)) ?_
    rintro v L' ⟨rfl, rfl⟩
    iterate 2 (refine JO.pure (v := ?_) ?_ rfl ?_; rotate_left; (focus ((try simp only [fv, ev, ibin, ishift, sbin, TM.putO, TM.put, tm0, puts, List.getD_cons_zero, List.getD_cons_succ, List.map_cons, List.map_nil, reduceIte, Nat.reduceEqDiff, reduceCtorEq]) <;> rfl)))
    refine JO.nil ?_
    have hsa := lower_size a
    have hsd := lower_size d
    refine J.cut [(0, strAV a), (1, strAV d), (7, boolAV (under a d))] L' ?_ ?_
    · rw [wantUnder_eq]
      refine J.region ?_
      by_cases h1 : d = ofBytes [46]
      · (refine JO.pure (v := ?_) ?_ rfl ?_; rotate_left; (focus ((try simp only [fv, ev, ibin, ishift, sbin, TM.putO, TM.put, tm0, puts, List.getD_cons_zero, List.getD_cons_succ, List.map_cons, List.map_nil, reduceIte, Nat.reduceEqDiff, reduceCtorEq]) <;> rfl)))
        (refine JO.pureB (c := ?_) true ?_ ?_ rfl ?_; rotate_left; (focus ((try simp only [fv, ev, ibin, ishift, sbin, TM.putO, TM.put, tm0, puts, List.getD_cons_zero, List.getD_cons_succ, List.map_cons, List.map_nil, reduceIte, Nat.reduceEqDiff, reduceCtorEq]) <;> rfl)); (focus (exact decide_eq_true h1)))
        (refine JO.pure (v := ?_) ?_ rfl ?_; rotate_left; (focus ((try simp only [fv, ev, ibin, ishift, sbin, TM.putO, TM.put, tm0, puts, List.getD_cons_zero, List.getD_cons_succ, List.map_cons, List.map_nil, reduceIte, Nat.reduceEqDiff, reduceCtorEq]) <;> rfl)))
        iterate 3 (refine R.off (c := ?_) rfl rfl rfl ?_ ?_ ?_; rotate_left; (focus ((try simp only [fv, ev, ibin, ishift, sbin, TM.putO, TM.put, tm0, puts, List.getD_cons_zero, List.getD_cons_succ, List.map_cons, List.map_nil, reduceIte, Nat.reduceEqDiff, reduceCtorEq]) <;> rfl)); (focus rfl))
        iterate 2 (refine JO.pure (v := ?_) ?_ rfl ?_; rotate_left; (focus ((try simp only [fv, ev, ibin, ishift, sbin, TM.putO, TM.put, tm0, puts, List.getD_cons_zero, List.getD_cons_succ, List.map_cons, List.map_nil, reduceIte, Nat.reduceEqDiff, reduceCtorEq]) <;> rfl)))
        iterate 6 (refine R.off (c := ?_) rfl rfl rfl ?_ ?_ ?_; rotate_left; (focus ((try simp only [fv, ev, ibin, ishift, sbin, TM.putO, TM.put, tm0, puts, List.getD_cons_zero, List.getD_cons_succ, List.map_cons, List.map_nil, reduceIte, Nat.reduceEqDiff, reduceCtorEq]) <;> rfl)); (focus rfl))
        iterate 11 (refine R.offU rfl rfl rfl ?_ ?_; (focus ((try simp only [fv, ev, ibin, ishift, sbin, TM.putO, TM.put, tm0, puts, List.getD_cons_zero, List.getD_cons_succ, List.map_cons, List.map_nil, reduceIte, Nat.reduceEqDiff, reduceCtorEq]) <;> rfl)))
        (refine R.off (c := ?_) rfl rfl rfl ?_ ?_ ?_; rotate_left; (focus ((try simp only [fv, ev, ibin, ishift, sbin, TM.putO, TM.put, tm0, puts, List.getD_cons_zero, List.getD_cons_succ, List.map_cons, List.map_nil, reduceIte, Nat.reduceEqDiff, reduceCtorEq]) <;> rfl)); (focus rfl))
        iterate 2 (refine JO.pure (v := ?_) ?_ rfl ?_; rotate_left; (focus ((try simp only [fv, ev, ibin, ishift, sbin, TM.putO, TM.put, tm0, puts, List.getD_cons_zero, List.getD_cons_succ, List.map_cons, List.map_nil, reduceIte, Nat.reduceEqDiff, reduceCtorEq]) <;> rfl)))
        refine JO.nil ?_
        refine ⟨⟨rfl, rfl, ?_, trivial⟩, rfl⟩
        simp only [wantUnder, h1, decide_true, Bool.true_or]
        rfl
      · have w1 : wantUnder a d = (decide (lower a = lower d) || (decide ((lower d).size < (lower a).size) && decide ((lower a).extract ((lower a).size - (lower d).size - 1) (lower a).size = ofBytes [46] ++ lower d))) := by simp only [wantUnder, h1, decide_false, Bool.false_or]
        rw [w1]
        (refine JO.pure (v := ?_) ?_ rfl ?_; rotate_left; (focus ((try simp only [fv, ev, ibin, ishift, sbin, TM.putO, TM.put, tm0, puts, List.getD_cons_zero, List.getD_cons_succ, List.map_cons, List.map_nil, reduceIte, Nat.reduceEqDiff, reduceCtorEq]) <;> rfl)))
        (refine JO.pureB (c := ?_) false ?_ ?_ rfl ?_; rotate_left; (focus ((try simp only [fv, ev, ibin, ishift, sbin, TM.putO, TM.put, tm0, puts, List.getD_cons_zero, List.getD_cons_succ, List.map_cons, List.map_nil, reduceIte, Nat.reduceEqDiff, reduceCtorEq]) <;> rfl)); (focus (exact decide_eq_false h1)))
        (refine JO.pure (v := ?_) ?_ rfl ?_; rotate_left; (focus ((try simp only [fv, ev, ibin, ishift, sbin, TM.putO, TM.put, tm0, puts, List.getD_cons_zero, List.getD_cons_succ, List.map_cons, List.map_nil, reduceIte, Nat.reduceEqDiff, reduceCtorEq]) <;> rfl)))
        (refine R.on (c := ?_) rfl rfl ?_ ?_ ?_; rotate_left; (focus ((try simp only [fv, ev, ibin, ishift, sbin, TM.putO, TM.put, tm0, puts, List.getD_cons_zero, List.getD_cons_succ, List.map_cons, List.map_nil, reduceIte, Nat.reduceEqDiff, reduceCtorEq]) <;> rfl)); (focus rfl))
        (refine JO.pure (v := ?_) ?_ rfl ?_; rotate_left; (focus ((try simp only [fv, ev, ibin, ishift, sbin, TM.putO, TM.put, tm0, puts, List.getD_cons_zero, List.getD_cons_succ, List.map_cons, List.map_nil, reduceIte, Nat.reduceEqDiff, reduceCtorEq]) <;> rfl)))
        (refine R.on (c := ?_) rfl rfl ?_ ?_ ?_; rotate_left; (focus ((try simp only [fv, ev, ibin, ishift, sbin, TM.putO, TM.put, tm0, puts, List.getD_cons_zero, List.getD_cons_succ, List.map_cons, List.map_nil, reduceIte, Nat.reduceEqDiff, reduceCtorEq]) <;> rfl)); (focus rfl))
        (refine JO.pure (v := ?_) ?_ rfl ?_; rotate_left; (focus ((try simp only [fv, ev, ibin, ishift, sbin, TM.putO, TM.put, tm0, puts, List.getD_cons_zero, List.getD_cons_succ, List.map_cons, List.map_nil, reduceIte, Nat.reduceEqDiff, reduceCtorEq]) <;> rfl)))
        (refine R.on (c := ?_) rfl rfl ?_ ?_ ?_; rotate_left; (focus ((try simp only [fv, ev, ibin, ishift, sbin, TM.putO, TM.put, tm0, puts, List.getD_cons_zero, List.getD_cons_succ, List.map_cons, List.map_nil, reduceIte, Nat.reduceEqDiff, reduceCtorEq]) <;> rfl)); (focus rfl))
        by_cases h2 : lower a = lower d
        · (refine JO.pureB (c := ?_) true ?_ ?_ rfl ?_; rotate_left; (focus ((try simp only [fv, ev, ibin, ishift, sbin, TM.putO, TM.put, tm0, puts, List.getD_cons_zero, List.getD_cons_succ, List.map_cons, List.map_nil, reduceIte, Nat.reduceEqDiff, reduceCtorEq]) <;> rfl)); (focus (simpa using h2)))
          iterate 2 (refine JO.pure (v := ?_) ?_ rfl ?_; rotate_left; (focus ((try simp only [fv, ev, ibin, ishift, sbin, TM.putO, TM.put, tm0, puts, List.getD_cons_zero, List.getD_cons_succ, List.map_cons, List.map_nil, reduceIte, Nat.reduceEqDiff, reduceCtorEq]) <;> rfl)))
          iterate 6 (refine R.off (c := ?_) rfl rfl rfl ?_ ?_ ?_; rotate_left; (focus ((try simp only [fv, ev, ibin, ishift, sbin, TM.putO, TM.put, tm0, puts, List.getD_cons_zero, List.getD_cons_succ, List.map_cons, List.map_nil, reduceIte, Nat.reduceEqDiff, reduceCtorEq]) <;> rfl)); (focus rfl))
          iterate 11 (refine R.offU rfl rfl rfl ?_ ?_; (focus ((try simp only [fv, ev, ibin, ishift, sbin, TM.putO, TM.put, tm0, puts, List.getD_cons_zero, List.getD_cons_succ, List.map_cons, List.map_nil, reduceIte, Nat.reduceEqDiff, reduceCtorEq]) <;> rfl)))
          (refine R.off (c := ?_) rfl rfl rfl ?_ ?_ ?_; rotate_left; (focus ((try simp only [fv, ev, ibin, ishift, sbin, TM.putO, TM.put, tm0, puts, List.getD_cons_zero, List.getD_cons_succ, List.map_cons, List.map_nil, reduceIte, Nat.reduceEqDiff, reduceCtorEq]) <;> rfl)); (focus rfl))
          iterate 2 (refine JO.pure (v := ?_) ?_ rfl ?_; rotate_left; (focus ((try simp only [fv, ev, ibin, ishift, sbin, TM.putO, TM.put, tm0, puts, List.getD_cons_zero, List.getD_cons_succ, List.map_cons, List.map_nil, reduceIte, Nat.reduceEqDiff, reduceCtorEq]) <;> rfl)))
          refine JO.nil ?_
          refine ⟨⟨rfl, rfl, ?_, trivial⟩, rfl⟩
          simp only [h2, decide_true, Bool.true_or]
          rfl
        · (refine JO.pureB (c := ?_) false ?_ ?_ rfl ?_; rotate_left; (focus ((try simp only [fv, ev, ibin, ishift, sbin, TM.putO, TM.put, tm0, puts, List.getD_cons_zero, List.getD_cons_succ, List.map_cons, List.map_nil, reduceIte, Nat.reduceEqDiff, reduceCtorEq]) <;> rfl)); (focus (simpa using h2)))
          iterate 2 (refine JO.pure (v := ?_) ?_ rfl ?_; rotate_left; (focus ((try simp only [fv, ev, ibin, ishift, sbin, TM.putO, TM.put, tm0, puts, List.getD_cons_zero, List.getD_cons_succ, List.map_cons, List.map_nil, reduceIte, Nat.reduceEqDiff, reduceCtorEq]) <;> rfl)))
          (refine R.on (c := ?_) rfl rfl ?_ ?_ ?_; rotate_left; (focus ((try simp only [fv, ev, ibin, ishift, sbin, TM.putO, TM.put, tm0, puts, List.getD_cons_zero, List.getD_cons_succ, List.map_cons, List.map_nil, reduceIte, Nat.reduceEqDiff, reduceCtorEq]) <;> rfl)); (focus rfl))
          (refine JO.pure (v := ?_) ?_ rfl ?_; rotate_left; (focus ((try simp only [fv, ev, ibin, ishift, sbin, TM.putO, TM.put, tm0, puts, List.getD_cons_zero, List.getD_cons_succ, List.map_cons, List.map_nil, reduceIte, Nat.reduceEqDiff, reduceCtorEq]) <;> rfl)))
          (refine R.on (c := ?_) rfl rfl ?_ ?_ ?_; rotate_left; (focus ((try simp only [fv, ev, ibin, ishift, sbin, TM.putO, TM.put, tm0, puts, List.getD_cons_zero, List.getD_cons_succ, List.map_cons, List.map_nil, reduceIte, Nat.reduceEqDiff, reduceCtorEq]) <;> rfl)); (focus rfl))
          (refine JO.lenStr (b := ?_) Try.underlying9 ?_ rfl ?_; rotate_left; (focus ((try simp only [fv, ev, ibin, ishift, sbin, TM.putO, TM.put, tm0, puts, List.getD_cons_zero, List.getD_cons_succ, List.map_cons, List.map_nil, reduceIte, Nat.reduceEqDiff, reduceCtorEq]) <;> rfl)))
          (refine R.on (c := ?_) rfl rfl ?_ ?_ ?_; rotate_left; (focus ((try simp only [fv, ev, ibin, ishift, sbin, TM.putO, TM.put, tm0, puts, List.getD_cons_zero, List.getD_cons_succ, List.map_cons, List.map_nil, reduceIte, Nat.reduceEqDiff, reduceCtorEq]) <;> rfl)); (focus rfl))
          (refine JO.pure (v := ?_) ?_ rfl ?_; rotate_left; (focus ((try simp only [fv, ev, ibin, ishift, sbin, TM.putO, TM.put, tm0, puts, List.getD_cons_zero, List.getD_cons_succ, List.map_cons, List.map_nil, reduceIte, Nat.reduceEqDiff, reduceCtorEq]) <;> rfl)))
          (refine R.on (c := ?_) rfl rfl ?_ ?_ ?_; rotate_left; (focus ((try simp only [fv, ev, ibin, ishift, sbin, TM.putO, TM.put, tm0, puts, List.getD_cons_zero, List.getD_cons_succ, List.map_cons, List.map_nil, reduceIte, Nat.reduceEqDiff, reduceCtorEq]) <;> rfl)); (focus rfl))
          (refine JO.lenStr (b := ?_) Try.underlying9 ?_ rfl ?_; rotate_left; (focus ((try simp only [fv, ev, ibin, ishift, sbin, TM.putO, TM.put, tm0, puts, List.getD_cons_zero, List.getD_cons_succ, List.map_cons, List.map_nil, reduceIte, Nat.reduceEqDiff, reduceCtorEq]) <;> rfl)))
          (refine R.on (c := ?_) rfl rfl ?_ ?_ ?_; rotate_left; (focus ((try simp only [fv, ev, ibin, ishift, sbin, TM.putO, TM.put, tm0, puts, List.getD_cons_zero, List.getD_cons_succ, List.map_cons, List.map_nil, reduceIte, Nat.reduceEqDiff, reduceCtorEq]) <;> rfl)); (focus rfl))
          by_cases h3 : (lower d).size < (lower a).size
          · (refine JO.pureB (c := ?_) true ?_ ?_ rfl ?_; rotate_left; (focus ((try simp only [fv, ev, ibin, ishift, sbin, TM.putO, TM.put, tm0, puts, List.getD_cons_zero, List.getD_cons_succ, List.map_cons, List.map_nil, reduceIte, Nat.reduceEqDiff, reduceCtorEq]) <;> rfl)); (focus (simp <;> omega)))
            (refine R.on (c := ?_) rfl rfl ?_ ?_ ?_; rotate_left; (focus ((try simp only [fv, ev, ibin, ishift, sbin, TM.putO, TM.put, tm0, puts, List.getD_cons_zero, List.getD_cons_succ, List.map_cons, List.map_nil, reduceIte, Nat.reduceEqDiff, reduceCtorEq]) <;> rfl)); (focus rfl))
            (refine JO.pure (v := ?_) ?_ rfl ?_; rotate_left; (focus ((try simp only [fv, ev, ibin, ishift, sbin, TM.putO, TM.put, tm0, puts, List.getD_cons_zero, List.getD_cons_succ, List.map_cons, List.map_nil, reduceIte, Nat.reduceEqDiff, reduceCtorEq]) <;> rfl)))
            (refine R.on (c := ?_) rfl rfl ?_ ?_ ?_; rotate_left; (focus ((try simp only [fv, ev, ibin, ishift, sbin, TM.putO, TM.put, tm0, puts, List.getD_cons_zero, List.getD_cons_succ, List.map_cons, List.map_nil, reduceIte, Nat.reduceEqDiff, reduceCtorEq]) <;> rfl)); (focus rfl))
            (refine JO.pure (v := ?_) ?_ rfl ?_; rotate_left; (focus ((try simp only [fv, ev, ibin, ishift, sbin, TM.putO, TM.put, tm0, puts, List.getD_cons_zero, List.getD_cons_succ, List.map_cons, List.map_nil, reduceIte, Nat.reduceEqDiff, reduceCtorEq]) <;> rfl)))
            (refine R.on (c := ?_) rfl rfl ?_ ?_ ?_; rotate_left; (focus ((try simp only [fv, ev, ibin, ishift, sbin, TM.putO, TM.put, tm0, puts, List.getD_cons_zero, List.getD_cons_succ, List.map_cons, List.map_nil, reduceIte, Nat.reduceEqDiff, reduceCtorEq]) <;> rfl)); (focus rfl))
            (refine JO.pure (v := ?_) ?_ rfl ?_; rotate_left; (focus ((try simp only [fv, ev, ibin, ishift, sbin, TM.putO, TM.put, tm0, puts, List.getD_cons_zero, List.getD_cons_succ, List.map_cons, List.map_nil, reduceIte, Nat.reduceEqDiff, reduceCtorEq]) <;> rfl)))
            (refine R.on (c := ?_) rfl rfl ?_ ?_ ?_; rotate_left; (focus ((try simp only [fv, ev, ibin, ishift, sbin, TM.putO, TM.put, tm0, puts, List.getD_cons_zero, List.getD_cons_succ, List.map_cons, List.map_nil, reduceIte, Nat.reduceEqDiff, reduceCtorEq]) <;> rfl)); (focus rfl))
            (refine JO.lenStr (b := ?_) Try.underlying9 ?_ rfl ?_; rotate_left; (focus ((try simp only [fv, ev, ibin, ishift, sbin, TM.putO, TM.put, tm0, puts, List.getD_cons_zero, List.getD_cons_succ, List.map_cons, List.map_nil, reduceIte, Nat.reduceEqDiff, reduceCtorEq]) <;> rfl)))
            (refine R.on (c := ?_) rfl rfl ?_ ?_ ?_; rotate_left; (focus ((try simp only [fv, ev, ibin, ishift, sbin, TM.putO, TM.put, tm0, puts, List.getD_cons_zero, List.getD_cons_succ, List.map_cons, List.map_nil, reduceIte, Nat.reduceEqDiff, reduceCtorEq]) <;> rfl)); (focus rfl))
            (refine JO.pure (v := ?_) ?_ rfl ?_; rotate_left; (focus ((try simp only [fv, ev, ibin, ishift, sbin, TM.putO, TM.put, tm0, puts, List.getD_cons_zero, List.getD_cons_succ, List.map_cons, List.map_nil, reduceIte, Nat.reduceEqDiff, reduceCtorEq]) <;> rfl)))
            (refine R.on (c := ?_) rfl rfl ?_ ?_ ?_; rotate_left; (focus ((try simp only [fv, ev, ibin, ishift, sbin, TM.putO, TM.put, tm0, puts, List.getD_cons_zero, List.getD_cons_succ, List.map_cons, List.map_nil, reduceIte, Nat.reduceEqDiff, reduceCtorEq]) <;> rfl)); (focus rfl))
            (refine JO.lenStr (b := ?_) Try.underlying9 ?_ rfl ?_; rotate_left; (focus ((try simp only [fv, ev, ibin, ishift, sbin, TM.putO, TM.put, tm0, puts, List.getD_cons_zero, List.getD_cons_succ, List.map_cons, List.map_nil, reduceIte, Nat.reduceEqDiff, reduceCtorEq]) <;> rfl)))
            (refine R.on (c := ?_) rfl rfl ?_ ?_ ?_; rotate_left; (focus ((try simp only [fv, ev, ibin, ishift, sbin, TM.putO, TM.put, tm0, puts, List.getD_cons_zero, List.getD_cons_succ, List.map_cons, List.map_nil, reduceIte, Nat.reduceEqDiff, reduceCtorEq]) <;> rfl)); (focus rfl))
            (refine JO.sub64 (a := ?_) (b := ?_) ?_ ?_ rfl ?_ ?_ ?_; rotate_left 2; (focus ((try simp only [fv, ev, ibin, ishift, sbin, TM.putO, TM.put, tm0, puts, List.getD_cons_zero, List.getD_cons_succ, List.map_cons, List.map_nil, reduceIte, Nat.reduceEqDiff, reduceCtorEq]) <;> rfl)); (focus ((try simp only [fv, ev, ibin, ishift, sbin, TM.putO, TM.put, tm0, puts, List.getD_cons_zero, List.getD_cons_succ, List.map_cons, List.map_nil, reduceIte, Nat.reduceEqDiff, reduceCtorEq]) <;> rfl)); (focus omega); (focus omega))
            (refine R.on (c := ?_) rfl rfl ?_ ?_ ?_; rotate_left; (focus ((try simp only [fv, ev, ibin, ishift, sbin, TM.putO, TM.put, tm0, puts, List.getD_cons_zero, List.getD_cons_succ, List.map_cons, List.map_nil, reduceIte, Nat.reduceEqDiff, reduceCtorEq]) <;> rfl)); (focus rfl))
            (refine JO.sub64 (a := ?_) (b := ?_) ?_ ?_ rfl ?_ ?_ ?_; rotate_left 2; (focus ((try simp only [fv, ev, ibin, ishift, sbin, TM.putO, TM.put, tm0, puts, List.getD_cons_zero, List.getD_cons_succ, List.map_cons, List.map_nil, reduceIte, Nat.reduceEqDiff, reduceCtorEq]) <;> rfl)); (focus ((try simp only [fv, ev, ibin, ishift, sbin, TM.putO, TM.put, tm0, puts, List.getD_cons_zero, List.getD_cons_succ, List.map_cons, List.map_nil, reduceIte, Nat.reduceEqDiff, reduceCtorEq]) <;> rfl)); (focus omega); (focus omega))
            (refine R.on (c := ?_) rfl rfl ?_ ?_ ?_; rotate_left; (focus ((try simp only [fv, ev, ibin, ishift, sbin, TM.putO, TM.put, tm0, puts, List.getD_cons_zero, List.getD_cons_succ, List.map_cons, List.map_nil, reduceIte, Nat.reduceEqDiff, reduceCtorEq]) <;> rfl)); (focus rfl))
            refine JO.cutStr (l := ((lower a).size : Int) - (lower d).size - 1) (h := (lower a).size) Try.underlying9 rfl ⟨_, rfl⟩ rfl rfl (by omega) (by omega) (by omega) ?_
            (refine R.on (c := ?_) rfl rfl ?_ ?_ ?_; rotate_left; (focus ((try simp only [fv, ev, ibin, ishift, sbin, TM.putO, TM.put, tm0, puts, List.getD_cons_zero, List.getD_cons_succ, List.map_cons, List.map_nil, reduceIte, Nat.reduceEqDiff, reduceCtorEq]) <;> rfl)); (focus rfl))
            (refine JO.pure (v := ?_) ?_ rfl ?_; rotate_left; (focus ((try simp only [fv, ev, ibin, ishift, sbin, TM.putO, TM.put, tm0, puts, List.getD_cons_zero, List.getD_cons_succ, List.map_cons, List.map_nil, reduceIte, Nat.reduceEqDiff, reduceCtorEq]) <;> rfl)))
            (refine R.on (c := ?_) rfl rfl ?_ ?_ ?_; rotate_left; (focus ((try simp only [fv, ev, ibin, ishift, sbin, TM.putO, TM.put, tm0, puts, List.getD_cons_zero, List.getD_cons_succ, List.map_cons, List.map_nil, reduceIte, Nat.reduceEqDiff, reduceCtorEq]) <;> rfl)); (focus rfl))
            refine JO.cat rfl rfl rfl (by show 1 + _ ≤ _; omega) ?_
            (refine R.on (c := ?_) rfl rfl ?_ ?_ ?_; rotate_left; (focus ((try simp only [fv, ev, ibin, ishift, sbin, TM.putO, TM.put, tm0, puts, List.getD_cons_zero, List.getD_cons_succ, List.map_cons, List.map_nil, reduceIte, Nat.reduceEqDiff, reduceCtorEq]) <;> rfl)); (focus rfl))
            (refine JO.pure (v := ?_) ?_ rfl ?_; rotate_left; (focus ((try simp only [fv, ev, ibin, ishift, sbin, TM.putO, TM.put, tm0, puts, List.getD_cons_zero, List.getD_cons_succ, List.map_cons, List.map_nil, reduceIte, Nat.reduceEqDiff, reduceCtorEq]) <;> rfl)))
            (refine R.on (c := ?_) rfl rfl ?_ ?_ ?_; rotate_left; (focus ((try simp only [fv, ev, ibin, ishift, sbin, TM.putO, TM.put, tm0, puts, List.getD_cons_zero, List.getD_cons_succ, List.map_cons, List.map_nil, reduceIte, Nat.reduceEqDiff, reduceCtorEq]) <;> rfl)); (focus rfl))
            iterate 3 (refine JO.pure (v := ?_) ?_ rfl ?_; rotate_left; (focus ((try simp only [fv, ev, ibin, ishift, sbin, TM.putO, TM.put, tm0, puts, List.getD_cons_zero, List.getD_cons_succ, List.map_cons, List.map_nil, reduceIte, Nat.reduceEqDiff, reduceCtorEq]) <;> rfl)))
            refine JO.nil ?_
            refine ⟨⟨rfl, rfl, ?_, trivial⟩, rfl⟩
            rw [show decide (lower a = lower d) = false by simpa using h2, show decide ((lower d).size < (lower a).size) = true by simpa using h3]
            rw [Bool.false_or, Bool.true_and, show (lower a).size - (lower d).size - 1 = (((lower a).size : Int) - (lower d).size - 1).toNat by omega]
            rfl
          · (refine JO.pureB (c := ?_) false ?_ ?_ rfl ?_; rotate_left; (focus ((try simp only [fv, ev, ibin, ishift, sbin, TM.putO, TM.put, tm0, puts, List.getD_cons_zero, List.getD_cons_succ, List.map_cons, List.map_nil, reduceIte, Nat.reduceEqDiff, reduceCtorEq]) <;> rfl)); (focus (simp <;> omega)))
            (refine R.on (c := ?_) rfl rfl ?_ ?_ ?_; rotate_left; (focus ((try simp only [fv, ev, ibin, ishift, sbin, TM.putO, TM.put, tm0, puts, List.getD_cons_zero, List.getD_cons_succ, List.map_cons, List.map_nil, reduceIte, Nat.reduceEqDiff, reduceCtorEq]) <;> rfl)); (focus rfl))
            (refine JO.pure (v := ?_) ?_ rfl ?_; rotate_left; (focus ((try simp only [fv, ev, ibin, ishift, sbin, TM.putO, TM.put, tm0, puts, List.getD_cons_zero, List.getD_cons_succ, List.map_cons, List.map_nil, reduceIte, Nat.reduceEqDiff, reduceCtorEq]) <;> rfl)))
            iterate 11 (refine R.off (c := ?_) rfl rfl rfl ?_ ?_ ?_; rotate_left; (focus ((try simp only [fv, ev, ibin, ishift, sbin, TM.putO, TM.put, tm0, puts, List.getD_cons_zero, List.getD_cons_succ, List.map_cons, List.map_nil, reduceIte, Nat.reduceEqDiff, reduceCtorEq]) <;> rfl)); (focus rfl))
            (refine R.on (c := ?_) rfl rfl ?_ ?_ ?_; rotate_left; (focus ((try simp only [fv, ev, ibin, ishift, sbin, TM.putO, TM.put, tm0, puts, List.getD_cons_zero, List.getD_cons_succ, List.map_cons, List.map_nil, reduceIte, Nat.reduceEqDiff, reduceCtorEq]) <;> rfl)); (focus rfl))
            iterate 3 (refine JO.pure (v := ?_) ?_ rfl ?_; rotate_left; (focus ((try simp only [fv, ev, ibin, ishift, sbin, TM.putO, TM.put, tm0, puts, List.getD_cons_zero, List.getD_cons_succ, List.map_cons, List.map_nil, reduceIte, Nat.reduceEqDiff, reduceCtorEq]) <;> rfl)))
            refine JO.nil ?_
            refine ⟨⟨rfl, rfl, ?_, trivial⟩, rfl⟩
            rw [show decide (lower a = lower d) = false by simpa using h2, show decide ((lower d).size < (lower a).size) = false by simpa using h3]
            rfl
    · intro t
      ((repeat (first | refine J.seq ?_ | refine J.block ?_)); refine J.region ?_)
      iterate 2 (refine JO.pure (v := ?_) ?_ rfl ?_; rotate_left; (focus ((try simp only [fv, ev, ibin, ishift, sbin, TM.putO, TM.put, tm0, puts, List.getD_cons_zero, List.getD_cons_succ, List.map_cons, List.map_nil, reduceIte, Nat.reduceEqDiff, reduceCtorEq]) <;> rfl)))
      refine JO.call (xs := [.tmp 46, .tmp 47]) Try.func16 rfl (by decide) rfl (under_J _ a d (by omega) (by omega)) ?_
      rintro v L' ⟨rfl, rfl⟩
      (refine JO.pure (v := ?_) ?_ rfl ?_; rotate_left; (focus ((try simp only [fv, ev, ibin, ishift, sbin, TM.putO, TM.put, tm0, puts, List.getD_cons_zero, List.getD_cons_succ, List.map_cons, List.map_nil, reduceIte, Nat.reduceEqDiff, reduceCtorEq]) <;> rfl)))
      refine JO.eqBool Try.underlying4 rfl rfl rfl ?_
      rw [beq_self_eq_true]
      (refine JO.pure (v := ?_) ?_ rfl ?_; rotate_left; (focus ((try simp only [fv, ev, ibin, ishift, sbin, TM.putO, TM.put, tm0, puts, List.getD_cons_zero, List.getD_cons_succ, List.map_cons, List.map_nil, reduceIte, Nat.reduceEqDiff, reduceCtorEq]) <;> rfl)))
      (refine R.on (c := ?_) rfl rfl ?_ ?_ ?_; rotate_left; (focus ((try simp only [fv, ev, ibin, ishift, sbin, TM.putO, TM.put, tm0, puts, List.getD_cons_zero, List.getD_cons_succ, List.map_cons, List.map_nil, reduceIte, Nat.reduceEqDiff, reduceCtorEq]) <;> rfl)); (focus rfl))
      (refine JO.pure (v := ?_) ?_ rfl ?_; rotate_left; (focus ((try simp only [fv, ev, ibin, ishift, sbin, TM.putO, TM.put, tm0, puts, List.getD_cons_zero, List.getD_cons_succ, List.map_cons, List.map_nil, reduceIte, Nat.reduceEqDiff, reduceCtorEq]) <;> rfl)))
      (refine R.on (c := ?_) rfl rfl ?_ ?_ ?_; rotate_left; (focus ((try simp only [fv, ev, ibin, ishift, sbin, TM.putO, TM.put, tm0, puts, List.getD_cons_zero, List.getD_cons_succ, List.map_cons, List.map_nil, reduceIte, Nat.reduceEqDiff, reduceCtorEq]) <;> rfl)); (focus rfl))
      (refine JO.pure (v := ?_) ?_ rfl ?_; rotate_left; (focus ((try simp only [fv, ev, ibin, ishift, sbin, TM.putO, TM.put, tm0, puts, List.getD_cons_zero, List.getD_cons_succ, List.map_cons, List.map_nil, reduceIte, Nat.reduceEqDiff, reduceCtorEq]) <;> rfl)))
      (refine R.on (c := ?_) rfl rfl ?_ ?_ ?_; rotate_left; (focus ((try simp only [fv, ev, ibin, ishift, sbin, TM.putO, TM.put, tm0, puts, List.getD_cons_zero, List.getD_cons_succ, List.map_cons, List.map_nil, reduceIte, Nat.reduceEqDiff, reduceCtorEq]) <;> rfl)); (focus rfl))
      refine JO.call (xs := [.tmp 52, .tmp 53]) Try.func16 rfl (by decide) rfl (under_J _ a a (by omega) (by omega)) ?_
      rintro v L' ⟨rfl, rfl⟩
      rw [under_self]
      iterate 2 (refine JO.pure (v := ?_) ?_ rfl ?_; rotate_left; (focus ((try simp only [fv, ev, ibin, ishift, sbin, TM.putO, TM.put, tm0, puts, List.getD_cons_zero, List.getD_cons_succ, List.map_cons, List.map_nil, reduceIte, Nat.reduceEqDiff, reduceCtorEq]) <;> rfl)))
      (refine R.on (c := ?_) rfl rfl ?_ ?_ ?_; rotate_left; (focus ((try simp only [fv, ev, ibin, ishift, sbin, TM.putO, TM.put, tm0, puts, List.getD_cons_zero, List.getD_cons_succ, List.map_cons, List.map_nil, reduceIte, Nat.reduceEqDiff, reduceCtorEq]) <;> rfl)); (focus rfl))
      (refine JO.pure (v := ?_) ?_ rfl ?_; rotate_left; (focus ((try simp only [fv, ev, ibin, ishift, sbin, TM.putO, TM.put, tm0, puts, List.getD_cons_zero, List.getD_cons_succ, List.map_cons, List.map_nil, reduceIte, Nat.reduceEqDiff, reduceCtorEq]) <;> rfl)))
      (refine R.on (c := ?_) rfl rfl ?_ ?_ ?_; rotate_left; (focus ((try simp only [fv, ev, ibin, ishift, sbin, TM.putO, TM.put, tm0, puts, List.getD_cons_zero, List.getD_cons_succ, List.map_cons, List.map_nil, reduceIte, Nat.reduceEqDiff, reduceCtorEq]) <;> rfl)); (focus rfl))
      refine JO.call (xs := [.tmp 57, .const (.string (ofBytes [46]))]) Try.func16 rfl (by decide) rfl (under_J _ a (ofBytes [46]) (by omega) (by decide)) ?_
      rintro v L' ⟨rfl, rfl⟩
      rw [under_root]
      iterate 2 (refine JO.pure (v := ?_) ?_ rfl ?_; rotate_left; (focus ((try simp only [fv, ev, ibin, ishift, sbin, TM.putO, TM.put, tm0, puts, List.getD_cons_zero, List.getD_cons_succ, List.map_cons, List.map_nil, reduceIte, Nat.reduceEqDiff, reduceCtorEq]) <;> rfl)))
      refine JO.nil ?_
      exact J.ret ⟨_, rfl, rfl, rfl⟩
  · (refine JO.pureB (c := ?_) true ?_ ?_ rfl ?_; rotate_left; (focus ((try simp only [fv, ev, ibin, ishift, sbin, TM.putO, TM.put, tm0, puts, List.getD_cons_zero, List.getD_cons_succ, List.map_cons, List.map_nil, reduceIte, Nat.reduceEqDiff, reduceCtorEq]) <;> rfl)); (focus (simp [hl])))
    refine JO.nil ?_
    ((repeat (first | refine J.seq ?_ | refine J.block ?_)); refine J.ifT ?_ ?_; (focus ((try simp only [fv, ev, ibin, ishift, sbin, TM.putO, TM.put, tm0, puts, List.getD_cons_zero, List.getD_cons_succ, List.map_cons, List.map_nil, reduceIte, Nat.reduceEqDiff, reduceCtorEq]) <;> rfl)))
    ((repeat (first | refine J.seq ?_ | refine J.block ?_)); refine J.region ?_)
    (refine JO.pure (v := ?_) ?_ rfl ?_; rotate_left; (focus ((try simp only [fv, ev, ibin, ishift, sbin, TM.putO, TM.put, tm0, puts, List.getD_cons_zero, List.getD_cons_succ, List.map_cons, List.map_nil, reduceIte, Nat.reduceEqDiff, reduceCtorEq]) <;> rfl)))
    refine JO.nil ?_
    exact J.ret ⟨_, rfl, rfl, rfl⟩
end Go.Proofs.YtljgkjkdmoejfaaAv
