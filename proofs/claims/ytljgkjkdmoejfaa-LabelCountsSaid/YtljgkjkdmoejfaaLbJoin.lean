/- The contracts of label.Join and label.Count. -/
import Derived.Test.YtljgkjkdmoejfaaLbSplit
set_option linter.unusedVariables false
set_option linter.unusedSimpArgs false
namespace Go.Proofs.YtljgkjkdmoejfaaAv
open Go Go.RowKit

/-- Lists with points between. -/
def joinB : List (List UInt8) → List UInt8
  | [] => []
  | [x] => x
  | x :: y :: l => x ++ 46 :: joinB (y :: l)
theorem joinB_snoc (x : List UInt8) : ∀ (l : List (List UInt8)), l ≠ [] → joinB (l ++ [x]) = joinB l ++ 46 :: x
  | [], h => absurd rfl h
  | [y], _ => by simp [joinB]
  | y :: z :: l, _ => by
    simp only [List.cons_append, joinB]
    rw [← List.cons_append, joinB_snoc x (z :: l) (by simp)]
    simp [List.append_assoc]
def join (l : List ByteArray) : ByteArray := ofBytes (joinB (l.map byt))
theorem join_nil : join [] = ofBytes [] := rfl
theorem join_snoc (l : List ByteArray) (x : ByteArray) (h : l ≠ []) : join (l ++ [x]) = join l ++ ofBytes [46] ++ x := by
  unfold join
  apply byt_inj
  rw [byt_append, byt_append, byt_of, byt_of, byt_of, List.map_append, List.map_cons, List.map_nil, joinB_snoc _ _ (by simpa using h)]
  simp
theorem join_one (x : ByteArray) : join [x] = x := by simp [join, joinB, of_byt]

def sizes (l : List ByteArray) : Nat := (l.map (·.size)).sum
theorem sizes_snoc (l : List ByteArray) (x : ByteArray) : sizes (l ++ [x]) = sizes l + x.size := by simp [sizes]
theorem sizes_take_le (l : List ByteArray) (i : Nat) : sizes (l.take i) ≤ sizes l := by
  conv => rhs; rw [← List.take_append_drop i l]
  unfold sizes
  rw [List.map_append, List.sum_append]
  omega
theorem size_append (a b : ByteArray) : (a ++ b).size = a.size + b.size := by rw [← byt_length, byt_append, List.length_append, byt_length, byt_length]

theorem join_J (L : GH) (ss : List ByteArray) (hl : ss.length ≤ 1099511627776) (hs : sizes ss ≤ 4611686018427387904) : JF Try.prog 19 [strsAV ss] L (fun v L' => v = strAV (join ss) ∧ L' = L) := by
  refine JF.body Try.func19 rfl (by simp [Try.f19]) ?_
  ((repeat (first | refine J.seq ?_ | refine J.block ?_)); refine J.region ?_)
  (refine JO.pure (v := ?_) ?_ rfl ?_; rotate_left; (focus ((try simp only [fv, ev, ibin, ishift, sbin, TM.putO, TM.put, tm0, puts, List.getD_cons_zero, List.getD_cons_succ, List.map_cons, List.map_nil, reduceIte, Nat.reduceEqDiff, reduceCtorEq]) <;> rfl)))
  refine JO.nil ?_
  ((repeat (first | refine J.seq ?_ | refine J.block ?_)); refine J.region ?_)
  (refine JO.pure (v := ?_) ?_ rfl ?_; rotate_left; (focus ((try simp only [fv, ev, ibin, ishift, sbin, TM.putO, TM.put, tm0, puts, List.getD_cons_zero, List.getD_cons_succ, List.map_cons, List.map_nil, reduceIte, Nat.reduceEqDiff, reduceCtorEq]) <;> rfl)))
  refine JO.nil ?_
  ((repeat (first | refine J.seq ?_ | refine J.block ?_)); refine J.region ?_)
  (refine JO.pure (v := ?_) ?_ rfl ?_; rotate_left; (focus ((try simp only [fv, ev, ibin, ishift, sbin, TM.putO, TM.put, tm0, puts, List.getD_cons_zero, List.getD_cons_succ, List.map_cons, List.map_nil, reduceIte, Nat.reduceEqDiff, reduceCtorEq]) <;> rfl)))
  (refine JO.lenSl (n := ?_) Try.underlying29 ?_ rfl ?_; rotate_left; (focus ((try simp only [fv, ev, ibin, ishift, sbin, TM.putO, TM.put, tm0, puts, List.getD_cons_zero, List.getD_cons_succ, List.map_cons, List.map_nil, reduceIte, Nat.reduceEqDiff, reduceCtorEq, slen, strsAV]) <;> rfl)))
  (refine JO.pure (v := ?_) ?_ rfl ?_; rotate_left; (focus ((try simp only [fv, ev, ibin, ishift, sbin, TM.putO, TM.put, tm0, puts, List.getD_cons_zero, List.getD_cons_succ, List.map_cons, List.map_nil, reduceIte, Nat.reduceEqDiff, reduceCtorEq]) <;> rfl)))
  refine JO.nil ?_
  (repeat (first | refine J.seq ?_ | refine J.block ?_))
  refine J.loopS (σ := Nat) (fun i => [(3, strAV (join (ss.take i))), (6, strsAV ss), (7, intAV ss.length), (8, intAV i)]) (fun _ => L) (fun i => i ≤ ss.length ∧ (join (ss.take i)).size ≤ sizes (ss.take i) + i) (fun i => ss.length - i) 0 ⟨Nat.zero_le _, by simp [join_nil, size_of]⟩ ⟨rfl, rfl, rfl, rfl, trivial⟩ rfl ?_
  rintro i t ⟨hi, hj⟩
  ((repeat (first | refine J.seq ?_ | refine J.block ?_)); refine J.region ?_)
  (refine JO.pure (v := ?_) ?_ rfl ?_; rotate_left; (focus ((try simp only [fv, ev, ibin, ishift, sbin, TM.putO, TM.put, tm0, puts, List.getD_cons_zero, List.getD_cons_succ, List.map_cons, List.map_nil, reduceIte, Nat.reduceEqDiff, reduceCtorEq]) <;> rfl)))
  refine JO.nil ?_
  ((repeat (first | refine J.seq ?_ | refine J.block ?_)); refine J.cond (b := ?_) ?_ (fun h => ?_) (fun h => ?_); rotate_left; (focus ((try simp only [fv, ev, ibin, ishift, sbin, TM.putO, TM.put, tm0, puts, List.getD_cons_zero, List.getD_cons_succ, List.map_cons, List.map_nil, reduceIte, Nat.reduceEqDiff, reduceCtorEq]) <;> rfl)))
  · have hlt : i < ss.length := by have := of_decide_eq_true h; omega
    have htk : ss.take (i + 1) = ss.take i ++ [ss[i]] := List.take_succ_eq_append_getElem hlt
    have hsz := sizes_snoc (ss.take i) ss[i]
    have hle := sizes_take_le ss (i + 1)
    rw [htk, hsz] at hle
    refine J.skip ?_
    ((repeat (first | refine J.seq ?_ | refine J.block ?_)); refine J.region ?_)
    (refine JO.pure (v := ?_) ?_ rfl ?_; rotate_left; (focus ((try simp only [fv, ev, ibin, ishift, sbin, TM.putO, TM.put, tm0, puts, List.getD_cons_zero, List.getD_cons_succ, List.map_cons, List.map_nil, reduceIte, Nat.reduceEqDiff, reduceCtorEq]) <;> rfl)))
    refine R.idxFz1 (j := i) (f := strAV) (xs := ss) Try.underlying29 TI9 rfl rfl rfl hlt ?_
    refine JO.ldFp Try.underlying9 rfl rfl rfl rfl ?_
    iterate 2 (refine JO.pure (v := ?_) ?_ rfl ?_; rotate_left; (focus ((try simp only [fv, ev, ibin, ishift, sbin, TM.putO, TM.put, tm0, puts, List.getD_cons_zero, List.getD_cons_succ, List.map_cons, List.map_nil, reduceIte, Nat.reduceEqDiff, reduceCtorEq]) <;> rfl)))
    refine JO.nil ?_
    ((repeat (first | refine J.seq ?_ | refine J.block ?_)); refine J.region ?_)
    iterate 2 (refine JO.pure (v := ?_) ?_ rfl ?_; rotate_left; (focus ((try simp only [fv, ev, ibin, ishift, sbin, TM.putO, TM.put, tm0, puts, List.getD_cons_zero, List.getD_cons_succ, List.map_cons, List.map_nil, reduceIte, Nat.reduceEqDiff, reduceCtorEq]) <;> rfl)))
    refine JO.nil ?_
    ((repeat (first | refine J.seq ?_ | refine J.block ?_)); refine J.cond (b := ?_) ?_ (fun h => ?_) (fun h => ?_); rotate_left; (focus ((try simp only [fv, ev, ibin, ishift, sbin, TM.putO, TM.put, tm0, puts, List.getD_cons_zero, List.getD_cons_succ, List.map_cons, List.map_nil, reduceIte, Nat.reduceEqDiff, reduceCtorEq]) <;> rfl)))
    · have hpos : 0 < i := by have := of_decide_eq_true h; omega
      have hne : ss.take i ≠ [] := by intro h0; have := congrArg List.length h0; rw [List.length_take, List.length_nil] at this; omega
      have hjs := join_snoc (ss.take i) ss[i] hne
      ((repeat (first | refine J.seq ?_ | refine J.block ?_)); refine J.region ?_)
      (refine JO.pure (v := ?_) ?_ rfl ?_; rotate_left; (focus ((try simp only [fv, ev, ibin, ishift, sbin, TM.putO, TM.put, tm0, puts, List.getD_cons_zero, List.getD_cons_succ, List.map_cons, List.map_nil, reduceIte, Nat.reduceEqDiff, reduceCtorEq]) <;> rfl)))
      refine JO.cat rfl rfl rfl (by show (join (ss.take i)).size + 1 ≤ _; omega) ?_
      (refine JO.pure (v := ?_) ?_ rfl ?_; rotate_left; (focus ((try simp only [fv, ev, ibin, ishift, sbin, TM.putO, TM.put, tm0, puts, List.getD_cons_zero, List.getD_cons_succ, List.map_cons, List.map_nil, reduceIte, Nat.reduceEqDiff, reduceCtorEq]) <;> rfl)))
      refine JO.nil ?_
      ((repeat (first | refine J.seq ?_ | refine J.block ?_)); refine J.region ?_)
      iterate 2 (refine JO.pure (v := ?_) ?_ rfl ?_; rotate_left; (focus ((try simp only [fv, ev, ibin, ishift, sbin, TM.putO, TM.put, tm0, puts, List.getD_cons_zero, List.getD_cons_succ, List.map_cons, List.map_nil, reduceIte, Nat.reduceEqDiff, reduceCtorEq]) <;> rfl)))
      refine JO.cat rfl rfl rfl (by have e1 : ({ data := #[46] } : ByteArray).size = 1 := rfl; rw [size_append]; omega) ?_
      (refine JO.pure (v := ?_) ?_ rfl ?_; rotate_left; (focus ((try simp only [fv, ev, ibin, ishift, sbin, TM.putO, TM.put, tm0, puts, List.getD_cons_zero, List.getD_cons_succ, List.map_cons, List.map_nil, reduceIte, Nat.reduceEqDiff, reduceCtorEq]) <;> rfl)))
      refine JO.nil ?_
      ((repeat (first | refine J.seq ?_ | refine J.block ?_)); refine J.region ?_)
      (refine JO.add64 (a := ?_) (b := ?_) ?_ ?_ rfl ?_ ?_ ?_; rotate_left 2; (focus ((try simp only [fv, ev, ibin, ishift, sbin, TM.putO, TM.put, tm0, puts, List.getD_cons_zero, List.getD_cons_succ, List.map_cons, List.map_nil, reduceIte, Nat.reduceEqDiff, reduceCtorEq]) <;> rfl)); (focus ((try simp only [fv, ev, ibin, ishift, sbin, TM.putO, TM.put, tm0, puts, List.getD_cons_zero, List.getD_cons_succ, List.map_cons, List.map_nil, reduceIte, Nat.reduceEqDiff, reduceCtorEq]) <;> rfl)); (focus omega); (focus omega))
      (refine JO.pure (v := ?_) ?_ rfl ?_; rotate_left; (focus ((try simp only [fv, ev, ibin, ishift, sbin, TM.putO, TM.put, tm0, puts, List.getD_cons_zero, List.getD_cons_succ, List.map_cons, List.map_nil, reduceIte, Nat.reduceEqDiff, reduceCtorEq]) <;> rfl)))
      refine JO.nil ?_
      refine ⟨i + 1, ⟨by omega, ?_⟩, by omega, ⟨?_, rfl, rfl, rfl, trivial⟩, rfl⟩
      · rw [htk, hjs, size_append, size_append, hsz, size_of]
        simp only [List.length_cons, List.length_nil]
        omega
      · rw [htk, hjs]; rfl
    · have hz : i = 0 := by have := of_decide_eq_false h; omega
      subst hz
      refine J.skip ?_
      ((repeat (first | refine J.seq ?_ | refine J.block ?_)); refine J.region ?_)
      iterate 2 (refine JO.pure (v := ?_) ?_ rfl ?_; rotate_left; (focus ((try simp only [fv, ev, ibin, ishift, sbin, TM.putO, TM.put, tm0, puts, List.getD_cons_zero, List.getD_cons_succ, List.map_cons, List.map_nil, reduceIte, Nat.reduceEqDiff, reduceCtorEq]) <;> rfl)))
      refine JO.cat rfl rfl rfl (by show 0 + _ ≤ _; omega) ?_
      (refine JO.pure (v := ?_) ?_ rfl ?_; rotate_left; (focus ((try simp only [fv, ev, ibin, ishift, sbin, TM.putO, TM.put, tm0, puts, List.getD_cons_zero, List.getD_cons_succ, List.map_cons, List.map_nil, reduceIte, Nat.reduceEqDiff, reduceCtorEq]) <;> rfl)))
      refine JO.nil ?_
      ((repeat (first | refine J.seq ?_ | refine J.block ?_)); refine J.region ?_)
      (refine JO.add64 (a := ?_) (b := ?_) ?_ ?_ rfl ?_ ?_ ?_; rotate_left 2; (focus ((try simp only [fv, ev, ibin, ishift, sbin, TM.putO, TM.put, tm0, puts, List.getD_cons_zero, List.getD_cons_succ, List.map_cons, List.map_nil, reduceIte, Nat.reduceEqDiff, reduceCtorEq]) <;> rfl)); (focus ((try simp only [fv, ev, ibin, ishift, sbin, TM.putO, TM.put, tm0, puts, List.getD_cons_zero, List.getD_cons_succ, List.map_cons, List.map_nil, reduceIte, Nat.reduceEqDiff, reduceCtorEq]) <;> rfl)); (focus omega); (focus omega))
      (refine JO.pure (v := ?_) ?_ rfl ?_; rotate_left; (focus ((try simp only [fv, ev, ibin, ishift, sbin, TM.putO, TM.put, tm0, puts, List.getD_cons_zero, List.getD_cons_succ, List.map_cons, List.map_nil, reduceIte, Nat.reduceEqDiff, reduceCtorEq]) <;> rfl)))
      refine JO.nil ?_
      have hj1 : join (ss.take 1) = ss[0] := by rw [htk]; exact join_one _
      refine ⟨1, ⟨by omega, ?_⟩, by omega, ⟨?_, rfl, rfl, rfl, trivial⟩, rfl⟩
      · rw [hj1, htk, hsz]; omega
      · rw [hj1]
        show strAV (ofBytes [] ++ ss[0]) = _
        rw [show ofBytes [] ++ ss[0] = ss[0] from byt_inj (by rw [byt_append, byt_of]; rfl)]
  · have hge : i = ss.length := by have := of_decide_eq_false h; omega
    subst hge
    refine J.exit ?_
    ((repeat (first | refine J.seq ?_ | refine J.block ?_)); refine J.region ?_)
    iterate 2 (refine JO.pure (v := ?_) ?_ rfl ?_; rotate_left; (focus ((try simp only [fv, ev, ibin, ishift, sbin, TM.putO, TM.put, tm0, puts, List.getD_cons_zero, List.getD_cons_succ, List.map_cons, List.map_nil, reduceIte, Nat.reduceEqDiff, reduceCtorEq]) <;> rfl)))
    refine JO.nil ?_
    refine J.ret ?_
    refine ⟨_, rfl, ?_, rfl⟩
    show strAV (join (ss.take ss.length)) = _
    rw [List.take_length]

def count (s : ByteArray) : Nat := if s = ofBytes [46] then 0 else (split s).length
theorem count_J (L : GH) (s : ByteArray) (hs : s.size ≤ 1099511627776) : JF Try.prog 20 [strAV s] L (fun v L' => v = intAV (count s) ∧ L' = L) := by
  refine JF.body Try.func20 rfl (by simp [Try.f20]) ?_
  ((repeat (first | refine J.seq ?_ | refine J.block ?_)); refine J.region ?_)
  (refine JO.pure (v := ?_) ?_ rfl ?_; rotate_left; (focus ((try simp only [fv, ev, ibin, ishift, sbin, TM.putO, TM.put, tm0, puts, List.getD_cons_zero, List.getD_cons_succ, List.map_cons, List.map_nil, reduceIte, Nat.reduceEqDiff, reduceCtorEq]) <;> rfl)))
  refine JO.nil ?_
  ((repeat (first | refine J.seq ?_ | refine J.block ?_)); refine J.region ?_)
  iterate 2 (refine JO.pure (v := ?_) ?_ rfl ?_; rotate_left; (focus ((try simp only [fv, ev, ibin, ishift, sbin, TM.putO, TM.put, tm0, puts, List.getD_cons_zero, List.getD_cons_succ, List.map_cons, List.map_nil, reduceIte, Nat.reduceEqDiff, reduceCtorEq]) <;> rfl)))
  refine JO.nil ?_
  ((repeat (first | refine J.seq ?_ | refine J.block ?_)); refine J.cond (b := ?_) ?_ (fun h => ?_) (fun h => ?_); rotate_left; (focus ((try simp only [fv, ev, ibin, ishift, sbin, TM.putO, TM.put, tm0, puts, List.getD_cons_zero, List.getD_cons_succ, List.map_cons, List.map_nil, reduceIte, Nat.reduceEqDiff, reduceCtorEq]) <;> rfl)))
  · have he : s = ofBytes [46] := of_decide_eq_true h
    ((repeat (first | refine J.seq ?_ | refine J.block ?_)); refine J.region ?_)
    (refine JO.pure (v := ?_) ?_ rfl ?_; rotate_left; (focus ((try simp only [fv, ev, ibin, ishift, sbin, TM.putO, TM.put, tm0, puts, List.getD_cons_zero, List.getD_cons_succ, List.map_cons, List.map_nil, reduceIte, Nat.reduceEqDiff, reduceCtorEq]) <;> rfl)))
    refine JO.nil ?_
    refine J.ret ⟨_, rfl, ?_, rfl⟩
    simp only [count, if_pos he]
    rfl
  · have he : ¬ s = ofBytes [46] := of_decide_eq_false h
    refine J.skip ?_
    ((repeat (first | refine J.seq ?_ | refine J.block ?_)); refine J.region ?_)
    (refine JO.pure (v := ?_) ?_ rfl ?_; rotate_left; (focus ((try simp only [fv, ev, ibin, ishift, sbin, TM.putO, TM.put, tm0, puts, List.getD_cons_zero, List.getD_cons_succ, List.map_cons, List.map_nil, reduceIte, Nat.reduceEqDiff, reduceCtorEq]) <;> rfl)))
    refine JO.call (xs := [.tmp 5]) Try.func18 rfl (by decide) rfl (split_J L s hs) ?_
    rintro v L' ⟨rfl, rfl⟩
    (refine JO.lenSl (n := ?_) Try.underlying29 ?_ rfl ?_; rotate_left; (focus ((try simp only [fv, ev, ibin, ishift, sbin, TM.putO, TM.put, tm0, puts, List.getD_cons_zero, List.getD_cons_succ, List.map_cons, List.map_nil, reduceIte, Nat.reduceEqDiff, reduceCtorEq, slen, strsAV]) <;> rfl)))
    (refine JO.pure (v := ?_) ?_ rfl ?_; rotate_left; (focus ((try simp only [fv, ev, ibin, ishift, sbin, TM.putO, TM.put, tm0, puts, List.getD_cons_zero, List.getD_cons_succ, List.map_cons, List.map_nil, reduceIte, Nat.reduceEqDiff, reduceCtorEq]) <;> rfl)))
    refine JO.nil ?_
    refine J.ret ⟨_, rfl, ?_, rfl⟩
    simp only [count, if_neg he]
    rfl
end Go.Proofs.YtljgkjkdmoejfaaAv
