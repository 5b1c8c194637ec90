/- The contract of label.Under. -/
import Derived.Test.YtljgkjkdmoejfaaLbJoin
set_option linter.unusedVariables false
set_option linter.unusedSimpArgs false
namespace Go.Proofs.YtljgkjkdmoejfaaAv
open Go Go.RowKit

/-- Does a list end with another one? -/
def endsWith (a d : List ByteArray) : Bool := decide (d.length ≤ a.length ∧ a.drop (a.length - d.length) = d)
def under (n d : ByteArray) : Bool := decide (d = ofBytes [46]) || endsWith (split (lower n)) (split (lower d))

theorem lower_size (s : ByteArray) : (lower s).size = s.size := by rw [lower, size_of, List.length_map, byt_length]

theorem strs_get (l : List ByteArray) (i : Nat) (h : i < l.length) (j : Int) (hj : j = i) : (l.map strAV).drop (j.toNat * 1) = strAV l[i] :: (l.drop (i + 1)).map strAV := by
  subst hj
  rw [Int.toNat_natCast, Nat.mul_one, ← List.map_drop, List.drop_eq_getElem_cons h]
  rfl

theorem parts_length (l : List UInt8) : (parts l).length = l.count 46 + 1 := by
  induction l with
  | nil => rfl
  | cons c l ih =>
    simp only [parts]
    split
    · rename_i h
      rw [List.length_cons, ih, h]
      simp
    · rename_i h
      split
      · rename_i h2; exact absurd h2 (parts_ne l)
      · rename_i p ps h2
        rw [h2] at ih
        rw [List.length_cons] at ih ⊢
        rw [ih, List.count_cons_of_ne (by simpa using h)]
theorem split_length (s : ByteArray) : (split s).length ≤ s.size + 1 := by
  have := List.count_le_length (a := (46 : UInt8)) (l := byt s)
  rw [split, List.length_map, parts_length]
  rw [byt_length] at this
  omega

theorem under_J (L : GH) (n d : ByteArray) (hn : n.size ≤ 1099511627776) (hd : d.size ≤ 1099511627776) : JF Try.prog 16 [strAV n, strAV d] L (fun v L' => v = boolAV (under n d) ∧ L' = L) := by
  refine JF.body Try.func16 rfl (by simp [Try.f16]) ?_
  ((repeat (first | refine J.seq ?_ | refine J.block ?_)); refine J.region ?_)
  (refine JO.pure (v := ?_) ?_ rfl ?_; rotate_left; (focus ((try simp only [fv, ev, ibin, ishift, sbin, TM.putO, TM.put, tm0, puts, List.getD_cons_zero, List.getD_cons_succ, List.map_cons, List.map_nil, reduceIte, Nat.reduceEqDiff, reduceCtorEq]) <;> rfl)))
  refine JO.nil ?_
  ((repeat (first | refine J.seq ?_ | refine J.block ?_)); refine J.region ?_)
  iterate 2 (refine JO.pure (v := ?_) ?_ rfl ?_; rotate_left; (focus ((try simp only [fv, ev, ibin, ishift, sbin, TM.putO, TM.put, tm0, puts, List.getD_cons_zero, List.getD_cons_succ, List.map_cons, List.map_nil, reduceIte, Nat.reduceEqDiff, reduceCtorEq]) <;> rfl)))
  refine JO.nil ?_
  ((repeat (first | refine J.seq ?_ | refine J.block ?_)); refine J.cond (b := ?_) ?_ (fun h => ?_) (fun h => ?_); rotate_left; (focus ((try simp only [fv, ev, ibin, ishift, sbin, TM.putO, TM.put, tm0, puts, List.getD_cons_zero, List.getD_cons_succ, List.map_cons, List.map_nil, reduceIte, Nat.reduceEqDiff, reduceCtorEq]) <;> rfl)))
  · have he : d = ofBytes [46] := of_decide_eq_true h
    ((repeat (first | refine J.seq ?_ | refine J.block ?_)); refine J.region ?_)
    (refine JO.pure (v := ?_) ?_ rfl ?_; rotate_left; (focus ((try simp only [fv, ev, ibin, ishift, sbin, TM.putO, TM.put, tm0, puts, List.getD_cons_zero, List.getD_cons_succ, List.map_cons, List.map_nil, reduceIte, Nat.reduceEqDiff, reduceCtorEq]) <;> rfl)))
    refine JO.nil ?_
    refine J.ret ⟨_, rfl, ?_, rfl⟩
    simp only [under, he, decide_true, Bool.true_or]
    rfl
  · have he : ¬ d = ofBytes [46] := of_decide_eq_false h
    have hu : under n d = endsWith (split (lower n)) (split (lower d)) := by simp [under, he]
    refine J.skip ?_
    ((repeat (first | refine J.seq ?_ | refine J.block ?_)); refine J.region ?_)
    (refine JO.pure (v := ?_) ?_ rfl ?_; rotate_left; (focus ((try simp only [fv, ev, ibin, ishift, sbin, TM.putO, TM.put, tm0, puts, List.getD_cons_zero, List.getD_cons_succ, List.map_cons, List.map_nil, reduceIte, Nat.reduceEqDiff, reduceCtorEq]) <;> rfl)))
    refine JO.call (xs := [.tmp 11]) Try.func15 rfl (by decide) rfl (lower_J L n (by omega)) ?_
    rintro v L' ⟨rfl, rfl⟩
    refine JO.call (xs := [.tmp 12]) Try.func18 rfl (by decide) rfl (split_J _ (lower n) (by rw [lower_size]; exact hn)) ?_
    rintro v L' ⟨rfl, rfl⟩
    (refine JO.pure (v := ?_) ?_ rfl ?_; rotate_left; (focus ((try simp only [fv, ev, ibin, ishift, sbin, TM.putO, TM.put, tm0, puts, List.getD_cons_zero, List.getD_cons_succ, List.map_cons, List.map_nil, reduceIte, Nat.reduceEqDiff, reduceCtorEq]) <;> rfl)))
    refine JO.call (xs := [.tmp 14]) Try.func15 rfl (by decide) rfl (lower_J _ d (by omega)) ?_
    rintro v L' ⟨rfl, rfl⟩
    refine JO.call (xs := [.tmp 15]) Try.func18 rfl (by decide) rfl (split_J _ (lower d) (by rw [lower_size]; exact hd)) ?_
    rintro v L' ⟨rfl, rfl⟩
    rw [hu]
    have lenA : (split (lower n)).length ≤ 1099511627777 := by have := split_length (lower n); rw [lower_size] at this; omega
    have lenD : (split (lower d)).length ≤ 1099511627777 := by have := split_length (lower d); rw [lower_size] at this; omega
    generalize hA : split (lower n) = A at *
    generalize hD : split (lower d) = D at *
    iterate 2 (refine JO.pure (v := ?_) ?_ rfl ?_; rotate_left; (focus ((try simp only [fv, ev, ibin, ishift, sbin, TM.putO, TM.put, tm0, puts, List.getD_cons_zero, List.getD_cons_succ, List.map_cons, List.map_nil, reduceIte, Nat.reduceEqDiff, reduceCtorEq]) <;> rfl)))
    refine JO.nil ?_
    ((repeat (first | refine J.seq ?_ | refine J.block ?_)); refine J.region ?_)
    (refine JO.pure (v := ?_) ?_ rfl ?_; rotate_left; (focus ((try simp only [fv, ev, ibin, ishift, sbin, TM.putO, TM.put, tm0, puts, List.getD_cons_zero, List.getD_cons_succ, List.map_cons, List.map_nil, reduceIte, Nat.reduceEqDiff, reduceCtorEq]) <;> rfl)))
    (refine JO.lenSl (n := ?_) Try.underlying29 ?_ rfl ?_; rotate_left; (focus ((try simp only [fv, ev, ibin, ishift, sbin, TM.putO, TM.put, tm0, puts, List.getD_cons_zero, List.getD_cons_succ, List.map_cons, List.map_nil, reduceIte, Nat.reduceEqDiff, reduceCtorEq, slen, strsAV]) <;> rfl)))
    (refine JO.pure (v := ?_) ?_ rfl ?_; rotate_left; (focus ((try simp only [fv, ev, ibin, ishift, sbin, TM.putO, TM.put, tm0, puts, List.getD_cons_zero, List.getD_cons_succ, List.map_cons, List.map_nil, reduceIte, Nat.reduceEqDiff, reduceCtorEq]) <;> rfl)))
    (refine JO.lenSl (n := ?_) Try.underlying29 ?_ rfl ?_; rotate_left; (focus ((try simp only [fv, ev, ibin, ishift, sbin, TM.putO, TM.put, tm0, puts, List.getD_cons_zero, List.getD_cons_succ, List.map_cons, List.map_nil, reduceIte, Nat.reduceEqDiff, reduceCtorEq, slen, strsAV]) <;> rfl)))
    (refine JO.pure (v := ?_) ?_ rfl ?_; rotate_left; (focus ((try simp only [fv, ev, ibin, ishift, sbin, TM.putO, TM.put, tm0, puts, List.getD_cons_zero, List.getD_cons_succ, List.map_cons, List.map_nil, reduceIte, Nat.reduceEqDiff, reduceCtorEq]) <;> rfl)))
    refine JO.nil ?_
    ((repeat (first | refine J.seq ?_ | refine J.block ?_)); refine J.cond (b := ?_) ?_ (fun h => ?_) (fun h => ?_); rotate_left; (focus ((try simp only [fv, ev, ibin, ishift, sbin, TM.putO, TM.put, tm0, puts, List.getD_cons_zero, List.getD_cons_succ, List.map_cons, List.map_nil, reduceIte, Nat.reduceEqDiff, reduceCtorEq]) <;> rfl)))
    · have hgt : A.length < D.length := by have := of_decide_eq_true h; omega
      ((repeat (first | refine J.seq ?_ | refine J.block ?_)); refine J.region ?_)
      (refine JO.pure (v := ?_) ?_ rfl ?_; rotate_left; (focus ((try simp only [fv, ev, ibin, ishift, sbin, TM.putO, TM.put, tm0, puts, List.getD_cons_zero, List.getD_cons_succ, List.map_cons, List.map_nil, reduceIte, Nat.reduceEqDiff, reduceCtorEq]) <;> rfl)))
      refine JO.nil ?_
      refine J.ret ⟨_, rfl, ?_, rfl⟩
      have : endsWith A D = false := by simp [endsWith]; omega
      rw [this]
      rfl
    · have hle : D.length ≤ A.length := by have := of_decide_eq_false h; omega
      refine J.skip ?_
      ((repeat (first | refine J.seq ?_ | refine J.block ?_)); refine J.region ?_)
      (refine JO.pure (v := ?_) ?_ rfl ?_; rotate_left; (focus ((try simp only [fv, ev, ibin, ishift, sbin, TM.putO, TM.put, tm0, puts, List.getD_cons_zero, List.getD_cons_succ, List.map_cons, List.map_nil, reduceIte, Nat.reduceEqDiff, reduceCtorEq]) <;> rfl)))
      (refine JO.lenSl (n := ?_) Try.underlying29 ?_ rfl ?_; rotate_left; (focus ((try simp only [fv, ev, ibin, ishift, sbin, TM.putO, TM.put, tm0, puts, List.getD_cons_zero, List.getD_cons_succ, List.map_cons, List.map_nil, reduceIte, Nat.reduceEqDiff, reduceCtorEq, slen, strsAV]) <;> rfl)))
      (refine JO.pure (v := ?_) ?_ rfl ?_; rotate_left; (focus ((try simp only [fv, ev, ibin, ishift, sbin, TM.putO, TM.put, tm0, puts, List.getD_cons_zero, List.getD_cons_succ, List.map_cons, List.map_nil, reduceIte, Nat.reduceEqDiff, reduceCtorEq]) <;> rfl)))
      refine JO.nil ?_
      (repeat (first | refine J.seq ?_ | refine J.block ?_))
      refine J.loopS (σ := Nat) (fun i => [(5, strsAV A), (6, strsAV D), (22, strsAV D), (23, intAV D.length), (24, intAV i)]) (fun _ => L') (fun i => i ≤ D.length ∧ (A.drop (A.length - D.length)).take i = D.take i) (fun i => D.length - i) 0 ⟨Nat.zero_le _, by simp⟩ ⟨rfl, rfl, rfl, rfl, rfl, trivial⟩ rfl ?_
      rintro i t ⟨hi, heq⟩
      ((repeat (first | refine J.seq ?_ | refine J.block ?_)); refine J.region ?_)
      (refine JO.pure (v := ?_) ?_ rfl ?_; rotate_left; (focus ((try simp only [fv, ev, ibin, ishift, sbin, TM.putO, TM.put, tm0, puts, List.getD_cons_zero, List.getD_cons_succ, List.map_cons, List.map_nil, reduceIte, Nat.reduceEqDiff, reduceCtorEq]) <;> rfl)))
      refine JO.nil ?_
      ((repeat (first | refine J.seq ?_ | refine J.block ?_)); refine J.cond (b := ?_) ?_ (fun h => ?_) (fun h => ?_); rotate_left; (focus ((try simp only [fv, ev, ibin, ishift, sbin, TM.putO, TM.put, tm0, puts, List.getD_cons_zero, List.getD_cons_succ, List.map_cons, List.map_nil, reduceIte, Nat.reduceEqDiff, reduceCtorEq]) <;> rfl)))
      · have hlt : i < D.length := by have := of_decide_eq_true h; omega
        have hka : A.length - D.length + i < A.length := by omega
        refine J.skip ?_
        ((repeat (first | refine J.seq ?_ | refine J.block ?_)); refine J.region ?_)
        (refine JO.pure (v := ?_) ?_ rfl ?_; rotate_left; (focus ((try simp only [fv, ev, ibin, ishift, sbin, TM.putO, TM.put, tm0, puts, List.getD_cons_zero, List.getD_cons_succ, List.map_cons, List.map_nil, reduceIte, Nat.reduceEqDiff, reduceCtorEq]) <;> rfl)))
        refine R.idxFz1 (j := i) (f := strAV) (xs := D) Try.underlying29 TI9 rfl rfl rfl hlt ?_
        refine JO.ldFp Try.underlying9 rfl rfl rfl rfl ?_
        iterate 2 (refine JO.pure (v := ?_) ?_ rfl ?_; rotate_left; (focus ((try simp only [fv, ev, ibin, ishift, sbin, TM.putO, TM.put, tm0, puts, List.getD_cons_zero, List.getD_cons_succ, List.map_cons, List.map_nil, reduceIte, Nat.reduceEqDiff, reduceCtorEq]) <;> rfl)))
        refine JO.nil ?_
        ((repeat (first | refine J.seq ?_ | refine J.block ?_)); refine J.region ?_)
        iterate 2 (refine JO.pure (v := ?_) ?_ rfl ?_; rotate_left; (focus ((try simp only [fv, ev, ibin, ishift, sbin, TM.putO, TM.put, tm0, puts, List.getD_cons_zero, List.getD_cons_succ, List.map_cons, List.map_nil, reduceIte, Nat.reduceEqDiff, reduceCtorEq]) <;> rfl)))
        (refine JO.lenSl (n := ?_) Try.underlying29 ?_ rfl ?_; rotate_left; (focus ((try simp only [fv, ev, ibin, ishift, sbin, TM.putO, TM.put, tm0, puts, List.getD_cons_zero, List.getD_cons_succ, List.map_cons, List.map_nil, reduceIte, Nat.reduceEqDiff, reduceCtorEq, slen, strsAV]) <;> rfl)))
        (refine JO.pure (v := ?_) ?_ rfl ?_; rotate_left; (focus ((try simp only [fv, ev, ibin, ishift, sbin, TM.putO, TM.put, tm0, puts, List.getD_cons_zero, List.getD_cons_succ, List.map_cons, List.map_nil, reduceIte, Nat.reduceEqDiff, reduceCtorEq]) <;> rfl)))
        (refine JO.lenSl (n := ?_) Try.underlying29 ?_ rfl ?_; rotate_left; (focus ((try simp only [fv, ev, ibin, ishift, sbin, TM.putO, TM.put, tm0, puts, List.getD_cons_zero, List.getD_cons_succ, List.map_cons, List.map_nil, reduceIte, Nat.reduceEqDiff, reduceCtorEq, slen, strsAV]) <;> rfl)))
        (refine JO.sub64 (a := ?_) (b := ?_) ?_ ?_ rfl ?_ ?_ ?_; rotate_left 2; (focus ((try simp only [fv, ev, ibin, ishift, sbin, TM.putO, TM.put, tm0, puts, List.getD_cons_zero, List.getD_cons_succ, List.map_cons, List.map_nil, reduceIte, Nat.reduceEqDiff, reduceCtorEq]) <;> rfl)); (focus ((try simp only [fv, ev, ibin, ishift, sbin, TM.putO, TM.put, tm0, puts, List.getD_cons_zero, List.getD_cons_succ, List.map_cons, List.map_nil, reduceIte, Nat.reduceEqDiff, reduceCtorEq]) <;> rfl)); (focus omega); (focus omega))
        (refine JO.pure (v := ?_) ?_ rfl ?_; rotate_left; (focus ((try simp only [fv, ev, ibin, ishift, sbin, TM.putO, TM.put, tm0, puts, List.getD_cons_zero, List.getD_cons_succ, List.map_cons, List.map_nil, reduceIte, Nat.reduceEqDiff, reduceCtorEq]) <;> rfl)))
        (refine JO.add64 (a := ?_) (b := ?_) ?_ ?_ rfl ?_ ?_ ?_; rotate_left 2; (focus ((try simp only [fv, ev, ibin, ishift, sbin, TM.putO, TM.put, tm0, puts, List.getD_cons_zero, List.getD_cons_succ, List.map_cons, List.map_nil, reduceIte, Nat.reduceEqDiff, reduceCtorEq]) <;> rfl)); (focus ((try simp only [fv, ev, ibin, ishift, sbin, TM.putO, TM.put, tm0, puts, List.getD_cons_zero, List.getD_cons_succ, List.map_cons, List.map_nil, reduceIte, Nat.reduceEqDiff, reduceCtorEq]) <;> rfl)); (focus omega); (focus omega))
        refine R.idxFz (sz := 1) Try.underlying29 TI9 rfl rfl rfl (by omega) (by omega) (by intro h0; rw [List.map_eq_nil_iff] at h0; rw [h0] at hka; simp at hka) ?_
        rw [strs_get A (A.length - D.length + i) hka _ (by omega)]
        refine JO.ldFp Try.underlying9 rfl rfl rfl rfl ?_
        iterate 2 (refine JO.pure (v := ?_) ?_ rfl ?_; rotate_left; (focus ((try simp only [fv, ev, ibin, ishift, sbin, TM.putO, TM.put, tm0, puts, List.getD_cons_zero, List.getD_cons_succ, List.map_cons, List.map_nil, reduceIte, Nat.reduceEqDiff, reduceCtorEq]) <;> rfl)))
        refine JO.nil ?_
        have hg : ∀ x : List ByteArray, (A.drop (A.length - D.length)).take (i + 1) = (A.drop (A.length - D.length)).take i ++ [A[A.length - D.length + i]] := fun _ => by
          rw [List.take_succ_eq_append_getElem (by simp; omega), List.getElem_drop]
        have hg2 : D.take (i + 1) = D.take i ++ [D[i]] := List.take_succ_eq_append_getElem hlt
        ((repeat (first | refine J.seq ?_ | refine J.block ?_)); refine J.cond (b := ?_) ?_ (fun h => ?_) (fun h => ?_); rotate_left; (focus ((try simp only [fv, ev, ibin, ishift, sbin, TM.putO, TM.put, tm0, puts, List.getD_cons_zero, List.getD_cons_succ, List.map_cons, List.map_nil, reduceIte, Nat.reduceEqDiff, reduceCtorEq]) <;> rfl)))
        · have hne : ¬ A[A.length - D.length + i] = D[i] := by simpa using h
          ((repeat (first | refine J.seq ?_ | refine J.block ?_)); refine J.region ?_)
          (refine JO.pure (v := ?_) ?_ rfl ?_; rotate_left; (focus ((try simp only [fv, ev, ibin, ishift, sbin, TM.putO, TM.put, tm0, puts, List.getD_cons_zero, List.getD_cons_succ, List.map_cons, List.map_nil, reduceIte, Nat.reduceEqDiff, reduceCtorEq]) <;> rfl)))
          refine JO.nil ?_
          refine J.ret ⟨_, rfl, ?_, rfl⟩
          have : endsWith A D = false := by
            simp only [endsWith, decide_eq_false_iff_not, not_and]
            intro _ hd
            have e := hg []
            rw [hd, hg2] at e
            have := List.append_cancel_left e
            exact hne (by simpa using this.symm)
          rw [this]
          rfl
        · have hee : A[A.length - D.length + i] = D[i] := by simpa using h
          refine J.skip ?_
          ((repeat (first | refine J.seq ?_ | refine J.block ?_)); refine J.region ?_)
          (refine JO.add64 (a := ?_) (b := ?_) ?_ ?_ rfl ?_ ?_ ?_; rotate_left 2; (focus ((try simp only [fv, ev, ibin, ishift, sbin, TM.putO, TM.put, tm0, puts, List.getD_cons_zero, List.getD_cons_succ, List.map_cons, List.map_nil, reduceIte, Nat.reduceEqDiff, reduceCtorEq]) <;> rfl)); (focus ((try simp only [fv, ev, ibin, ishift, sbin, TM.putO, TM.put, tm0, puts, List.getD_cons_zero, List.getD_cons_succ, List.map_cons, List.map_nil, reduceIte, Nat.reduceEqDiff, reduceCtorEq]) <;> rfl)); (focus omega); (focus omega))
          (refine JO.pure (v := ?_) ?_ rfl ?_; rotate_left; (focus ((try simp only [fv, ev, ibin, ishift, sbin, TM.putO, TM.put, tm0, puts, List.getD_cons_zero, List.getD_cons_succ, List.map_cons, List.map_nil, reduceIte, Nat.reduceEqDiff, reduceCtorEq]) <;> rfl)))
          refine JO.nil ?_
          refine ⟨i + 1, ⟨by omega, ?_⟩, by omega, ⟨rfl, rfl, rfl, rfl, rfl, trivial⟩, rfl⟩
          rw [hg [], hg2, heq, hee]
      · have hge : i = D.length := by have := of_decide_eq_false h; omega
        subst hge
        refine J.exit ?_
        ((repeat (first | refine J.seq ?_ | refine J.block ?_)); refine J.region ?_)
        (refine JO.pure (v := ?_) ?_ rfl ?_; rotate_left; (focus ((try simp only [fv, ev, ibin, ishift, sbin, TM.putO, TM.put, tm0, puts, List.getD_cons_zero, List.getD_cons_succ, List.map_cons, List.map_nil, reduceIte, Nat.reduceEqDiff, reduceCtorEq]) <;> rfl)))
        refine JO.nil ?_
        refine J.ret ⟨_, rfl, ?_, rfl⟩
        have : endsWith A D = true := by
          simp only [endsWith, decide_eq_true_eq]
          refine ⟨hle, ?_⟩
          rw [List.take_length, List.take_of_length_le (by simp; omega)] at heq
          exact heq
        rw [this]
        rfl
end Go.Proofs.YtljgkjkdmoejfaaAv
