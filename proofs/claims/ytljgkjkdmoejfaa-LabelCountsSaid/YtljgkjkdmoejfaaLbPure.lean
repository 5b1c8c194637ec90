/- Plain laws on lists parted at points, and on what is under what; the contracts of the statements' own small functions. -/
import Derived.Test.YtljgkjkdmoejfaaLbUnder
set_option linter.unusedVariables false
set_option linter.unusedSimpArgs false
namespace Go.Proofs.YtljgkjkdmoejfaaAv
open Go Go.RowKit

theorem parts_append (z y : List UInt8) : parts (z ++ 46 :: y) = parts z ++ parts y := by
  induction z with
  | nil => simp [parts]
  | cons c z ih =>
    simp only [List.cons_append, parts, ih]
    split
    · simp
    · cases h : parts z with
      | nil => exact absurd h (parts_ne z)
      | cons p ps => simp
theorem joinB_append : ∀ (p r : List (List UInt8)), p ≠ [] → r ≠ [] → joinB (p ++ r) = joinB p ++ 46 :: joinB r
  | [], _, h, _ => absurd rfl h
  | [x], [], _, h => absurd rfl h
  | [x], y :: l, _, _ => rfl
  | x :: y :: l, r, _, hr => by
    simp only [List.cons_append, joinB]
    rw [← List.cons_append, joinB_append (y :: l) r (by simp) hr]
    simp
theorem join_parts (l : List UInt8) : joinB (parts l) = l := by
  induction l with
  | nil => rfl
  | cons c l ih =>
    simp only [parts]
    split
    · rename_i h
      cases hp : parts l with
      | nil => exact absurd hp (parts_ne l)
      | cons p ps =>
        rw [hp] at ih
        rw [h]
        show [] ++ 46 :: joinB (p :: ps) = _
        rw [ih]
        rfl
    · cases hp : parts l with
      | nil => exact absurd hp (parts_ne l)
      | cons p ps =>
        rw [hp] at ih
        dsimp only
        cases ps with
        | nil => simp only [joinB] at ih ⊢; rw [ih]
        | cons q qs => simp only [joinB] at ih ⊢; rw [← ih]; rfl

/-- A list of parts ends with another one's just if it is that, or ends with a point and that. -/
theorem ends_parts (x y : List UInt8) : ((parts y).length ≤ (parts x).length ∧ (parts x).drop ((parts x).length - (parts y).length) = parts y) ↔ (x = y ∨ ∃ z, x = z ++ 46 :: y) := by
  constructor
  · rintro ⟨hl, hd⟩
    have e := List.take_append_drop ((parts x).length - (parts y).length) (parts x)
    rw [hd] at e
    cases hp : (parts x).take ((parts x).length - (parts y).length) with
    | nil =>
      rw [hp, List.nil_append] at e
      left
      rw [← join_parts x, ← e, join_parts]
    | cons p ps =>
      right
      refine ⟨joinB (p :: ps), ?_⟩
      rw [← join_parts x, ← e, hp, joinB_append _ _ (by simp) (parts_ne y), join_parts]
  · rintro (rfl | ⟨z, rfl⟩)
    · simp
    · rw [parts_append]
      simp

theorem map_ofBytes_inj {a b : List (List UInt8)} : a.map ofBytes = b.map ofBytes ↔ a = b := by
  constructor
  · intro h
    have := congrArg (List.map byt) h
    rw [List.map_map, List.map_map] at this
    have e : (byt ∘ ofBytes) = id := by funext l; exact byt_of l
    rwa [e, List.map_id, List.map_id] at this
  · rintro rfl; rfl

theorem endsWith_iff (a d : ByteArray) : endsWith (split a) (split d) = true ↔ (byt a = byt d ∨ ∃ z, byt a = z ++ 46 :: byt d) := by
  rw [← ends_parts]
  simp only [endsWith, split, decide_eq_true_eq, List.length_map, ← List.map_drop, map_ofBytes_inj]

theorem lowB_idem (b : UInt8) : lowB (lowB b) = lowB b := by
  unfold lowB
  split
  · rename_i h
    rw [if_neg]
    rw [UInt8.toNat_ofNat']
    omega
  · rfl
theorem lower_idem (s : ByteArray) : lower (lower s) = lower s := by
  unfold lower
  rw [byt_of, List.map_map]
  congr 1
  apply List.map_congr_left
  intro b _
  exact lowB_idem b

theorem fit1 : under (ofBytes [97, 46, 98, 46, 99]) (ofBytes [66, 46, 99]) = true := by decide +kernel
theorem fit2 : under (ofBytes [97, 98, 46, 99]) (ofBytes [98, 46, 99]) = false := by decide +kernel

theorem fit_J (L : GH) : JF Try.prog 13 [] L (fun v L' => v = boolAV true ∧ L' = L) := by
  refine JF.body Try.func13 rfl (by simp) ?_
  ((repeat (first | refine J.seq ?_ | refine J.block ?_)); refine J.region ?_)
  (refine JO.pure (v := ?_) ?_ rfl ?_; rotate_left; (focus ((try simp only [fv, ev, ibin, ishift, sbin, TM.putO, TM.put, tm0, puts, List.getD_cons_zero, List.getD_cons_succ, List.map_cons, List.map_nil, reduceIte, Nat.reduceEqDiff, reduceCtorEq]) <;> rfl)))
  refine JO.nil ?_
  ((repeat (first | refine J.seq ?_ | refine J.block ?_)); refine J.region ?_)
  refine JO.call (xs := [.const (.string (ofBytes [97, 46, 98, 46, 99])), .const (.string (ofBytes [66, 46, 99]))]) Try.func16 rfl (by decide) rfl (under_J L _ _ (by decide) (by decide)) ?_
  rintro v L' ⟨rfl, rfl⟩
  rw [fit1]
  (refine JO.pure (v := ?_) ?_ rfl ?_; rotate_left; (focus ((try simp only [fv, ev, ibin, ishift, sbin, TM.putO, TM.put, tm0, puts, List.getD_cons_zero, List.getD_cons_succ, List.map_cons, List.map_nil, reduceIte, Nat.reduceEqDiff, reduceCtorEq]) <;> rfl)))
  (refine R.on (c := ?_) rfl rfl ?_ ?_ ?_; rotate_left; (focus ((try simp only [fv, ev, ibin, ishift, sbin, TM.putO, TM.put, tm0, puts, List.getD_cons_zero, List.getD_cons_succ, List.map_cons, List.map_nil, reduceIte, Nat.reduceEqDiff, reduceCtorEq]) <;> rfl)); (focus rfl))
  refine JO.call (xs := [.const (.string (ofBytes [97, 98, 46, 99])), .const (.string (ofBytes [98, 46, 99]))]) Try.func16 rfl (by decide) rfl (under_J _ _ _ (by decide) (by decide)) ?_
  rintro v L' ⟨rfl, rfl⟩
  rw [fit2]
  (refine R.on (c := ?_) rfl rfl ?_ ?_ ?_; rotate_left; (focus ((try simp only [fv, ev, ibin, ishift, sbin, TM.putO, TM.put, tm0, puts, List.getD_cons_zero, List.getD_cons_succ, List.map_cons, List.map_nil, reduceIte, Nat.reduceEqDiff, reduceCtorEq]) <;> rfl)); (focus rfl))
  iterate 5 (refine JO.pure (v := ?_) ?_ rfl ?_; rotate_left; (focus ((try simp only [fv, ev, ibin, ishift, sbin, TM.putO, TM.put, tm0, puts, List.getD_cons_zero, List.getD_cons_succ, List.map_cons, List.map_nil, reduceIte, Nat.reduceEqDiff, reduceCtorEq]) <;> rfl)))
  refine JO.nil ?_
  refine J.ret ⟨_, rfl, rfl, rfl⟩

theorem light_J (L : GH) (ss : List ByteArray) (hs : sizes ss ≤ 4611686018427387904) (hl : ss.length ≤ 1099511627776) : JF Try.prog 14 [strsAV ss] L (fun v L' => v = boolAV (decide (sizes ss ≤ 600)) ∧ L' = L) := by
  refine JF.body Try.func14 rfl (by simp [Try.f14]) ?_
  ((repeat (first | refine J.seq ?_ | refine J.block ?_)); refine J.region ?_)
  (refine JO.pure (v := ?_) ?_ rfl ?_; rotate_left; (focus ((try simp only [fv, ev, ibin, ishift, sbin, TM.putO, TM.put, tm0, puts, List.getD_cons_zero, List.getD_cons_succ, List.map_cons, List.map_nil, reduceIte, Nat.reduceEqDiff, reduceCtorEq]) <;> rfl)))
  refine JO.nil ?_
  ((repeat (first | refine J.seq ?_ | refine J.block ?_)); refine J.region ?_)
  (refine JO.pure (v := ?_) ?_ rfl ?_; rotate_left; (focus ((try simp only [fv, ev, ibin, ishift, sbin, TM.putO, TM.put, tm0, puts, List.getD_cons_zero, List.getD_cons_succ, List.map_cons, List.map_nil, reduceIte, Nat.reduceEqDiff, reduceCtorEq]) <;> rfl)))
  refine JO.nil ?_
  ((repeat (first | refine J.seq ?_ | refine J.block ?_)); refine J.region ?_)
  (refine JO.pure (v := ?_) ?_ rfl ?_; rotate_left; (focus ((try simp only [fv, ev, ibin, ishift, sbin, TM.putO, TM.put, tm0, puts, List.getD_cons_zero, List.getD_cons_succ, List.map_cons, List.map_nil, reduceIte, Nat.reduceEqDiff, reduceCtorEq]) <;> rfl)))
  (refine JO.lenSl (n := ?_) Try.underlying29 ?_ rfl ?_; rotate_left; (focus ((try simp only [fv, ev, ibin, ishift, sbin, TM.putO, TM.put, tm0, puts, List.getD_cons_zero, List.getD_cons_succ, List.map_cons, List.map_nil, reduceIte, Nat.reduceEqDiff, reduceCtorEq, slen, strsAV]) <;> rfl)))
  (refine JO.pure (v := ?_) ?_ rfl ?_; rotate_left; (focus ((try simp only [fv, ev, ibin, ishift, sbin, TM.putO, TM.put, tm0, puts, List.getD_cons_zero, List.getD_cons_succ, List.map_cons, List.map_nil, reduceIte, Nat.reduceEqDiff, reduceCtorEq]) <;> rfl)))
  refine JO.nil ?_
  (repeat (first | refine J.seq ?_ | refine J.block ?_))
  refine J.loopS (σ := Nat) (fun i => [(3, intAV (sizes (ss.take i))), (6, strsAV ss), (7, intAV ss.length), (8, intAV i)]) (fun _ => L) (fun i => i ≤ ss.length) (fun i => ss.length - i) 0 (Nat.zero_le _) ⟨rfl, rfl, rfl, rfl, trivial⟩ rfl ?_
  intro i t hi
  ((repeat (first | refine J.seq ?_ | refine J.block ?_)); refine J.region ?_)
  (refine JO.pure (v := ?_) ?_ rfl ?_; rotate_left; (focus ((try simp only [fv, ev, ibin, ishift, sbin, TM.putO, TM.put, tm0, puts, List.getD_cons_zero, List.getD_cons_succ, List.map_cons, List.map_nil, reduceIte, Nat.reduceEqDiff, reduceCtorEq]) <;> rfl)))
  refine JO.nil ?_
  ((repeat (first | refine J.seq ?_ | refine J.block ?_)); refine J.cond (b := ?_) ?_ (fun h => ?_) (fun h => ?_); rotate_left; (focus ((try simp only [fv, ev, ibin, ishift, sbin, TM.putO, TM.put, tm0, puts, List.getD_cons_zero, List.getD_cons_succ, List.map_cons, List.map_nil, reduceIte, Nat.reduceEqDiff, reduceCtorEq]) <;> rfl)))
  · have hlt : i < ss.length := by have := of_decide_eq_true h; omega
    have htk : ss.take (i + 1) = ss.take i ++ [ss[i]] := List.take_succ_eq_append_getElem hlt
    have hsz := sizes_snoc (ss.take i) ss[i]
    have hle := sizes_take_le ss (i + 1)
    rw [htk, hsz] at hle
    refine J.skip ?_
    ((repeat (first | refine J.seq ?_ | refine J.block ?_)); refine J.region ?_)
    refine R.idxFz1 (j := i) (f := strAV) (xs := ss) Try.underlying29 TI9 rfl rfl rfl hlt ?_
    refine JO.ldFp Try.underlying9 rfl rfl rfl rfl ?_
    (refine JO.pure (v := ?_) ?_ rfl ?_; rotate_left; (focus ((try simp only [fv, ev, ibin, ishift, sbin, TM.putO, TM.put, tm0, puts, List.getD_cons_zero, List.getD_cons_succ, List.map_cons, List.map_nil, reduceIte, Nat.reduceEqDiff, reduceCtorEq]) <;> rfl)))
    refine JO.nil ?_
    ((repeat (first | refine J.seq ?_ | refine J.block ?_)); refine J.region ?_)
    iterate 2 (refine JO.pure (v := ?_) ?_ rfl ?_; rotate_left; (focus ((try simp only [fv, ev, ibin, ishift, sbin, TM.putO, TM.put, tm0, puts, List.getD_cons_zero, List.getD_cons_succ, List.map_cons, List.map_nil, reduceIte, Nat.reduceEqDiff, reduceCtorEq]) <;> rfl)))
    (refine JO.lenStr (b := ?_) Try.underlying9 ?_ rfl ?_; rotate_left; (focus ((try simp only [fv, ev, ibin, ishift, sbin, TM.putO, TM.put, tm0, puts, List.getD_cons_zero, List.getD_cons_succ, List.map_cons, List.map_nil, reduceIte, Nat.reduceEqDiff, reduceCtorEq]) <;> rfl)))
    (refine JO.add64 (a := ?_) (b := ?_) ?_ ?_ rfl ?_ ?_ ?_; rotate_left 2; (focus ((try simp only [fv, ev, ibin, ishift, sbin, TM.putO, TM.put, tm0, puts, List.getD_cons_zero, List.getD_cons_succ, List.map_cons, List.map_nil, reduceIte, Nat.reduceEqDiff, reduceCtorEq]) <;> rfl)); (focus ((try simp only [fv, ev, ibin, ishift, sbin, TM.putO, TM.put, tm0, puts, List.getD_cons_zero, List.getD_cons_succ, List.map_cons, List.map_nil, reduceIte, Nat.reduceEqDiff, reduceCtorEq]) <;> rfl)); (focus omega); (focus omega))
    (refine JO.pure (v := ?_) ?_ rfl ?_; rotate_left; (focus ((try simp only [fv, ev, ibin, ishift, sbin, TM.putO, TM.put, tm0, puts, List.getD_cons_zero, List.getD_cons_succ, List.map_cons, List.map_nil, reduceIte, Nat.reduceEqDiff, reduceCtorEq]) <;> rfl)))
    refine JO.nil ?_
    ((repeat (first | refine J.seq ?_ | refine J.block ?_)); refine J.region ?_)
    (refine JO.add64 (a := ?_) (b := ?_) ?_ ?_ rfl ?_ ?_ ?_; rotate_left 2; (focus ((try simp only [fv, ev, ibin, ishift, sbin, TM.putO, TM.put, tm0, puts, List.getD_cons_zero, List.getD_cons_succ, List.map_cons, List.map_nil, reduceIte, Nat.reduceEqDiff, reduceCtorEq]) <;> rfl)); (focus ((try simp only [fv, ev, ibin, ishift, sbin, TM.putO, TM.put, tm0, puts, List.getD_cons_zero, List.getD_cons_succ, List.map_cons, List.map_nil, reduceIte, Nat.reduceEqDiff, reduceCtorEq]) <;> rfl)); (focus omega); (focus omega))
    (refine JO.pure (v := ?_) ?_ rfl ?_; rotate_left; (focus ((try simp only [fv, ev, ibin, ishift, sbin, TM.putO, TM.put, tm0, puts, List.getD_cons_zero, List.getD_cons_succ, List.map_cons, List.map_nil, reduceIte, Nat.reduceEqDiff, reduceCtorEq]) <;> rfl)))
    refine JO.nil ?_
    refine ⟨i + 1, by omega, by omega, ⟨?_, rfl, rfl, rfl, trivial⟩, rfl⟩
    rw [htk, hsz]
    rfl
  · have hge : i = ss.length := by have := of_decide_eq_false h; omega
    subst hge
    refine J.exit ?_
    ((repeat (first | refine J.seq ?_ | refine J.block ?_)); refine J.region ?_)
    iterate 3 (refine JO.pure (v := ?_) ?_ rfl ?_; rotate_left; (focus ((try simp only [fv, ev, ibin, ishift, sbin, TM.putO, TM.put, tm0, puts, List.getD_cons_zero, List.getD_cons_succ, List.map_cons, List.map_nil, reduceIte, Nat.reduceEqDiff, reduceCtorEq]) <;> rfl)))
    refine JO.nil ?_
    refine J.ret ⟨_, rfl, ?_, rfl⟩
    show AV.p (.bool (decide ((sizes (ss.take ss.length) : Int) ≤ 600))) = _
    rw [List.take_length]
    simp [boolAV]
    omega
end Go.Proofs.YtljgkjkdmoejfaaAv
