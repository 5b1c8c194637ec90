/- The contract of label.Lower: capitals A to Z turned small. -/
import Derived.Test.YtljgkjkdmoejfaaLbTy
set_option linter.unusedVariables false
set_option linter.unusedSimpArgs false
namespace Go.Proofs.YtljgkjkdmoejfaaAv
open Go Go.RowKit

def lowB (b : UInt8) : UInt8 := if 65 ≤ b.toNat ∧ b.toNat ≤ 90 then UInt8.ofNat (b.toNat + 32) else b
def lower (s : ByteArray) : ByteArray := ofBytes ((byt s).map lowB)

/-- Half way. -/
def lowTo (bs : List UInt8) (i : Nat) : List UInt8 := (bs.take i).map lowB ++ bs.drop i
theorem lowTo_length (bs : List UInt8) (i : Nat) (h : i ≤ bs.length) : (lowTo bs i).length = bs.length := by simp [lowTo]; omega
theorem lowTo_get (bs : List UInt8) (i : Nat) (h : i < bs.length) : (lowTo bs i)[i]? = some bs[i] := by
  unfold lowTo
  have hl : ((bs.take i).map lowB).length = i := by simp; omega
  rw [List.getElem?_append_right (by omega), hl, Nat.sub_self, List.drop_eq_getElem_cons h]
  rfl
theorem lowTo_succ (bs : List UInt8) (i : Nat) (h : i < bs.length) : lowTo bs (i + 1) = (lowTo bs i).set i (lowB bs[i]) := by
  unfold lowTo
  have hl : ((bs.take i).map lowB).length = i := by simp; omega
  rw [List.set_append_right _ _ (by omega), hl, Nat.sub_self, List.drop_eq_getElem_cons h, List.set_cons_zero, List.take_succ_eq_append_getElem h, List.map_append, List.append_assoc]
  rfl
theorem lowTo_same (bs : List UInt8) (i : Nat) (h : i < bs.length) (hc : ¬ (65 ≤ bs[i].toNat ∧ bs[i].toNat ≤ 90)) : lowTo bs (i + 1) = lowTo bs i := by
  have hl : ((bs.take i).map lowB).length = i := by simp; omega
  unfold lowTo
  rw [List.take_succ_eq_append_getElem h, List.map_append, List.append_assoc]
  conv => rhs; rw [List.drop_eq_getElem_cons h]
  simp [lowB, hc]
theorem lowTo_end (bs : List UInt8) : lowTo bs bs.length = bs.map lowB := by simp [lowTo]

theorem lower_J (L : GH) (s : ByteArray) (hs : s.size ≤ 9223372036854775806) : JF Try.prog 15 [strAV s] L (fun v L' => v = strAV (lower s) ∧ L' = L) := by
  refine JF.body Try.func15 rfl (by simp [Try.f15]) ?_
  ((repeat (first | refine J.seq ?_ | refine J.block ?_)); refine J.region ?_)
  (refine JO.pure (v := ?_) ?_ rfl ?_; rotate_left; (focus ((try simp only [fv, ev, ibin, ishift, sbin, TM.putO, TM.put, tm0, puts, List.getD_cons_zero, List.getD_cons_succ, List.map_cons, List.map_nil, reduceIte, Nat.reduceEqDiff, reduceCtorEq]) <;> rfl)))
  refine JO.nil ?_
  ((repeat (first | refine J.seq ?_ | refine J.block ?_)); refine J.region ?_)
  (refine JO.pure (v := ?_) ?_ rfl ?_; rotate_left; (focus ((try simp only [fv, ev, ibin, ishift, sbin, TM.putO, TM.put, tm0, puts, List.getD_cons_zero, List.getD_cons_succ, List.map_cons, List.map_nil, reduceIte, Nat.reduceEqDiff, reduceCtorEq]) <;> rfl)))
  refine JO.toBytes Try.underlying9 Try.underlying27 Try.underlying5 rfl rfl fun g hg => ?_
  (refine JO.pure (v := ?_) ?_ rfl ?_; rotate_left; (focus ((try simp only [fv, ev, ibin, ishift, sbin, TM.putO, TM.put, tm0, puts, List.getD_cons_zero, List.getD_cons_succ, List.map_cons, List.map_nil, reduceIte, Nat.reduceEqDiff, reduceCtorEq]) <;> rfl)))
  refine JO.nil ?_
  ((repeat (first | refine J.seq ?_ | refine J.block ?_)); refine J.region ?_)
  (refine JO.pure (v := ?_) ?_ rfl ?_; rotate_left; (focus ((try simp only [fv, ev, ibin, ishift, sbin, TM.putO, TM.put, tm0, puts, List.getD_cons_zero, List.getD_cons_succ, List.map_cons, List.map_nil, reduceIte, Nat.reduceEqDiff, reduceCtorEq]) <;> rfl)))
  (refine JO.lenSl (n := ?_) Try.underlying27 ?_ rfl ?_; rotate_left; (focus ((try simp only [fv, ev, ibin, ishift, sbin, TM.putO, TM.put, tm0, puts, List.getD_cons_zero, List.getD_cons_succ, List.map_cons, List.map_nil, reduceIte, Nat.reduceEqDiff, reduceCtorEq, slen, strsAV]) <;> rfl)))
  (refine JO.pure (v := ?_) ?_ rfl ?_; rotate_left; (focus ((try simp only [fv, ev, ibin, ishift, sbin, TM.putO, TM.put, tm0, puts, List.getD_cons_zero, List.getD_cons_succ, List.map_cons, List.map_nil, reduceIte, Nat.reduceEqDiff, reduceCtorEq]) <;> rfl)))
  refine JO.nil ?_
  (repeat (first | refine J.seq ?_ | refine J.block ?_))
  refine J.loopS (σ := Nat) (fun i => [(3, .sl g 1 0 s.size), (8, .sl g 1 0 s.size), (9, intAV s.size), (10, intAV i)]) (fun i => upd L g ⟨5, false, (lowTo (byt s) i).map byteAV⟩) (fun i => i ≤ s.size) (fun i => s.size - i) 0 (Nat.zero_le _) ⟨rfl, rfl, rfl, rfl, trivial⟩ ?_ ?_
  · rfl
  intro i t hi
  ((repeat (first | refine J.seq ?_ | refine J.block ?_)); refine J.region ?_)
  (refine JO.pure (v := ?_) ?_ rfl ?_; rotate_left; (focus ((try simp only [fv, ev, ibin, ishift, sbin, TM.putO, TM.put, tm0, puts, List.getD_cons_zero, List.getD_cons_succ, List.map_cons, List.map_nil, reduceIte, Nat.reduceEqDiff, reduceCtorEq]) <;> rfl)))
  refine JO.nil ?_
  ((repeat (first | refine J.seq ?_ | refine J.block ?_)); refine J.cond (b := ?_) ?_ (fun h => ?_) (fun h => ?_); rotate_left; (focus ((try simp only [fv, ev, ibin, ishift, sbin, TM.putO, TM.put, tm0, puts, List.getD_cons_zero, List.getD_cons_succ, List.map_cons, List.map_nil, reduceIte, Nat.reduceEqDiff, reduceCtorEq]) <;> rfl)))
  · have hlt : i < s.size := by have := of_decide_eq_true h; omega
    have hlb : i < (byt s).length := by rw [byt_length]; exact hlt
    have hget := lowTo_get (byt s) i hlb
    have hlen := lowTo_length (byt s) i (by omega)
    refine J.skip ?_
    ((repeat (first | refine J.seq ?_ | refine J.block ?_)); refine J.region ?_)
    (refine JO.pure (v := ?_) ?_ rfl ?_; rotate_left; (focus ((try simp only [fv, ev, ibin, ishift, sbin, TM.putO, TM.put, tm0, puts, List.getD_cons_zero, List.getD_cons_succ, List.map_cons, List.map_nil, reduceIte, Nat.reduceEqDiff, reduceCtorEq]) <;> rfl)))
    refine R.idxSl1 (j := i) Try.underlying27 TI5 rfl rfl rfl hlt ?_
    refine JO.ldOwn (v := byteAV (byt s)[i]) Try.underlying5 rfl rfl (upd_same _ _ _) (by simp [hget]) rfl ?_
    iterate 2 (refine JO.pure (v := ?_) ?_ rfl ?_; rotate_left; (focus ((try simp only [fv, ev, ibin, ishift, sbin, TM.putO, TM.put, tm0, puts, List.getD_cons_zero, List.getD_cons_succ, List.map_cons, List.map_nil, reduceIte, Nat.reduceEqDiff, reduceCtorEq]) <;> rfl)))
    refine JO.nil ?_
    ((repeat (first | refine J.seq ?_ | refine J.block ?_)); refine J.region ?_)
    (refine JO.pure (v := ?_) ?_ rfl ?_; rotate_left; (focus ((try simp only [fv, ev, ibin, ishift, sbin, TM.putO, TM.put, tm0, puts, List.getD_cons_zero, List.getD_cons_succ, List.map_cons, List.map_nil, reduceIte, Nat.reduceEqDiff, reduceCtorEq]) <;> rfl)))
    by_cases h1 : 65 ≤ (byt s)[i].toNat
    · by_cases h2 : (byt s)[i].toNat ≤ 90
      · (refine JO.pureB (c := ?_) true ?_ ?_ rfl ?_; rotate_left; (focus ((try simp only [fv, ev, ibin, ishift, sbin, TM.putO, TM.put, tm0, puts, List.getD_cons_zero, List.getD_cons_succ, List.map_cons, List.map_nil, reduceIte, Nat.reduceEqDiff, reduceCtorEq]) <;> rfl)); (focus (simp <;> omega)))
        (refine JO.pure (v := ?_) ?_ rfl ?_; rotate_left; (focus ((try simp only [fv, ev, ibin, ishift, sbin, TM.putO, TM.put, tm0, puts, List.getD_cons_zero, List.getD_cons_succ, List.map_cons, List.map_nil, reduceIte, Nat.reduceEqDiff, reduceCtorEq]) <;> rfl)))
        (refine R.on (c := ?_) rfl rfl ?_ ?_ ?_; rotate_left; (focus ((try simp only [fv, ev, ibin, ishift, sbin, TM.putO, TM.put, tm0, puts, List.getD_cons_zero, List.getD_cons_succ, List.map_cons, List.map_nil, reduceIte, Nat.reduceEqDiff, reduceCtorEq]) <;> rfl)); (focus rfl))
        (refine JO.pure (v := ?_) ?_ rfl ?_; rotate_left; (focus ((try simp only [fv, ev, ibin, ishift, sbin, TM.putO, TM.put, tm0, puts, List.getD_cons_zero, List.getD_cons_succ, List.map_cons, List.map_nil, reduceIte, Nat.reduceEqDiff, reduceCtorEq]) <;> rfl)))
        (refine R.on (c := ?_) rfl rfl ?_ ?_ ?_; rotate_left; (focus ((try simp only [fv, ev, ibin, ishift, sbin, TM.putO, TM.put, tm0, puts, List.getD_cons_zero, List.getD_cons_succ, List.map_cons, List.map_nil, reduceIte, Nat.reduceEqDiff, reduceCtorEq]) <;> rfl)); (focus rfl))
        (refine JO.pureB (c := ?_) true ?_ ?_ rfl ?_; rotate_left; (focus ((try simp only [fv, ev, ibin, ishift, sbin, TM.putO, TM.put, tm0, puts, List.getD_cons_zero, List.getD_cons_succ, List.map_cons, List.map_nil, reduceIte, Nat.reduceEqDiff, reduceCtorEq]) <;> rfl)); (focus (simp <;> omega)))
        (refine JO.pure (v := ?_) ?_ rfl ?_; rotate_left; (focus ((try simp only [fv, ev, ibin, ishift, sbin, TM.putO, TM.put, tm0, puts, List.getD_cons_zero, List.getD_cons_succ, List.map_cons, List.map_nil, reduceIte, Nat.reduceEqDiff, reduceCtorEq]) <;> rfl)))
        refine JO.nil ?_
        ((repeat (first | refine J.seq ?_ | refine J.block ?_)); refine J.ifT ?_ ?_; (focus ((try simp only [fv, ev, ibin, ishift, sbin, TM.putO, TM.put, tm0, puts, List.getD_cons_zero, List.getD_cons_succ, List.map_cons, List.map_nil, reduceIte, Nat.reduceEqDiff, reduceCtorEq]) <;> rfl)))
        ((repeat (first | refine J.seq ?_ | refine J.block ?_)); refine J.region ?_)
        iterate 3 (refine JO.pure (v := ?_) ?_ rfl ?_; rotate_left; (focus ((try simp only [fv, ev, ibin, ishift, sbin, TM.putO, TM.put, tm0, puts, List.getD_cons_zero, List.getD_cons_succ, List.map_cons, List.map_nil, reduceIte, Nat.reduceEqDiff, reduceCtorEq]) <;> rfl)))
        refine JO.add8 rfl rfl rfl (by omega) (by omega) ?_
        refine R.idxSl1 (j := i) Try.underlying27 TI5 rfl rfl rfl hlt ?_
        refine R.st1 (c := byteAV (lowB (byt s)[i])) TI5 rfl (upd_same _ _ _) ?_ rfl (by simp [hlen, hlb]) ?_
        · show AV.p (.int .u8 _) = AV.p (.int .u8 _)
          simp only [lowB, h1, h2, and_self, if_true]
          congr 2
          simp [UInt8.toNat_ofNat']
          omega
        rw [upd_upd]
        refine JO.nil ?_
        ((repeat (first | refine J.seq ?_ | refine J.block ?_)); refine J.region ?_)
        (refine JO.add64 (a := ?_) (b := ?_) ?_ ?_ rfl ?_ ?_ ?_; rotate_left 2; (focus ((try simp only [fv, ev, ibin, ishift, sbin, TM.putO, TM.put, tm0, puts, List.getD_cons_zero, List.getD_cons_succ, List.map_cons, List.map_nil, reduceIte, Nat.reduceEqDiff, reduceCtorEq]) <;> rfl)); (focus ((try simp only [fv, ev, ibin, ishift, sbin, TM.putO, TM.put, tm0, puts, List.getD_cons_zero, List.getD_cons_succ, List.map_cons, List.map_nil, reduceIte, Nat.reduceEqDiff, reduceCtorEq]) <;> rfl)); (focus omega); (focus omega))
        (refine JO.pure (v := ?_) ?_ rfl ?_; rotate_left; (focus ((try simp only [fv, ev, ibin, ishift, sbin, TM.putO, TM.put, tm0, puts, List.getD_cons_zero, List.getD_cons_succ, List.map_cons, List.map_nil, reduceIte, Nat.reduceEqDiff, reduceCtorEq]) <;> rfl)))
        refine JO.nil ?_
        refine ⟨i + 1, by omega, by omega, ⟨rfl, rfl, rfl, rfl, trivial⟩, ?_⟩
        rw [lowTo_succ (byt s) i hlb, List.map_set]
      · (refine JO.pureB (c := ?_) true ?_ ?_ rfl ?_; rotate_left; (focus ((try simp only [fv, ev, ibin, ishift, sbin, TM.putO, TM.put, tm0, puts, List.getD_cons_zero, List.getD_cons_succ, List.map_cons, List.map_nil, reduceIte, Nat.reduceEqDiff, reduceCtorEq]) <;> rfl)); (focus (simp <;> omega)))
        (refine JO.pure (v := ?_) ?_ rfl ?_; rotate_left; (focus ((try simp only [fv, ev, ibin, ishift, sbin, TM.putO, TM.put, tm0, puts, List.getD_cons_zero, List.getD_cons_succ, List.map_cons, List.map_nil, reduceIte, Nat.reduceEqDiff, reduceCtorEq]) <;> rfl)))
        (refine R.on (c := ?_) rfl rfl ?_ ?_ ?_; rotate_left; (focus ((try simp only [fv, ev, ibin, ishift, sbin, TM.putO, TM.put, tm0, puts, List.getD_cons_zero, List.getD_cons_succ, List.map_cons, List.map_nil, reduceIte, Nat.reduceEqDiff, reduceCtorEq]) <;> rfl)); (focus rfl))
        (refine JO.pure (v := ?_) ?_ rfl ?_; rotate_left; (focus ((try simp only [fv, ev, ibin, ishift, sbin, TM.putO, TM.put, tm0, puts, List.getD_cons_zero, List.getD_cons_succ, List.map_cons, List.map_nil, reduceIte, Nat.reduceEqDiff, reduceCtorEq]) <;> rfl)))
        (refine R.on (c := ?_) rfl rfl ?_ ?_ ?_; rotate_left; (focus ((try simp only [fv, ev, ibin, ishift, sbin, TM.putO, TM.put, tm0, puts, List.getD_cons_zero, List.getD_cons_succ, List.map_cons, List.map_nil, reduceIte, Nat.reduceEqDiff, reduceCtorEq]) <;> rfl)); (focus rfl))
        (refine JO.pureB (c := ?_) false ?_ ?_ rfl ?_; rotate_left; (focus ((try simp only [fv, ev, ibin, ishift, sbin, TM.putO, TM.put, tm0, puts, List.getD_cons_zero, List.getD_cons_succ, List.map_cons, List.map_nil, reduceIte, Nat.reduceEqDiff, reduceCtorEq]) <;> rfl)); (focus (simp <;> omega)))
        (refine JO.pure (v := ?_) ?_ rfl ?_; rotate_left; (focus ((try simp only [fv, ev, ibin, ishift, sbin, TM.putO, TM.put, tm0, puts, List.getD_cons_zero, List.getD_cons_succ, List.map_cons, List.map_nil, reduceIte, Nat.reduceEqDiff, reduceCtorEq]) <;> rfl)))
        refine JO.nil ?_
        ((repeat (first | refine J.seq ?_ | refine J.block ?_)); refine J.ifF ?_ ?_; (focus ((try simp only [fv, ev, ibin, ishift, sbin, TM.putO, TM.put, tm0, puts, List.getD_cons_zero, List.getD_cons_succ, List.map_cons, List.map_nil, reduceIte, Nat.reduceEqDiff, reduceCtorEq]) <;> rfl)))
        refine J.skip ?_
        ((repeat (first | refine J.seq ?_ | refine J.block ?_)); refine J.region ?_)
        (refine JO.add64 (a := ?_) (b := ?_) ?_ ?_ rfl ?_ ?_ ?_; rotate_left 2; (focus ((try simp only [fv, ev, ibin, ishift, sbin, TM.putO, TM.put, tm0, puts, List.getD_cons_zero, List.getD_cons_succ, List.map_cons, List.map_nil, reduceIte, Nat.reduceEqDiff, reduceCtorEq]) <;> rfl)); (focus ((try simp only [fv, ev, ibin, ishift, sbin, TM.putO, TM.put, tm0, puts, List.getD_cons_zero, List.getD_cons_succ, List.map_cons, List.map_nil, reduceIte, Nat.reduceEqDiff, reduceCtorEq]) <;> rfl)); (focus omega); (focus omega))
        (refine JO.pure (v := ?_) ?_ rfl ?_; rotate_left; (focus ((try simp only [fv, ev, ibin, ishift, sbin, TM.putO, TM.put, tm0, puts, List.getD_cons_zero, List.getD_cons_succ, List.map_cons, List.map_nil, reduceIte, Nat.reduceEqDiff, reduceCtorEq]) <;> rfl)))
        refine JO.nil ?_
        refine ⟨i + 1, by omega, by omega, ⟨rfl, rfl, rfl, rfl, trivial⟩, ?_⟩
        rw [lowTo_same (byt s) i hlb (by omega)]
    · (refine JO.pureB (c := ?_) false ?_ ?_ rfl ?_; rotate_left; (focus ((try simp only [fv, ev, ibin, ishift, sbin, TM.putO, TM.put, tm0, puts, List.getD_cons_zero, List.getD_cons_succ, List.map_cons, List.map_nil, reduceIte, Nat.reduceEqDiff, reduceCtorEq]) <;> rfl)); (focus (simp <;> omega)))
      (refine JO.pure (v := ?_) ?_ rfl ?_; rotate_left; (focus ((try simp only [fv, ev, ibin, ishift, sbin, TM.putO, TM.put, tm0, puts, List.getD_cons_zero, List.getD_cons_succ, List.map_cons, List.map_nil, reduceIte, Nat.reduceEqDiff, reduceCtorEq]) <;> rfl)))
      (refine R.off (c := ?_) rfl rfl rfl ?_ ?_ ?_; rotate_left; (focus ((try simp only [fv, ev, ibin, ishift, sbin, TM.putO, TM.put, tm0, puts, List.getD_cons_zero, List.getD_cons_succ, List.map_cons, List.map_nil, reduceIte, Nat.reduceEqDiff, reduceCtorEq]) <;> rfl)); (focus rfl))
      (refine R.off (c := ?_) rfl rfl rfl ?_ ?_ ?_; rotate_left; (focus ((try simp only [fv, ev, ibin, ishift, sbin, TM.putO, TM.put, tm0, puts, List.getD_cons_zero, List.getD_cons_succ, List.map_cons, List.map_nil, reduceIte, Nat.reduceEqDiff, reduceCtorEq]) <;> rfl)); (focus rfl))
      (refine JO.pure (v := ?_) ?_ rfl ?_; rotate_left; (focus ((try simp only [fv, ev, ibin, ishift, sbin, TM.putO, TM.put, tm0, puts, List.getD_cons_zero, List.getD_cons_succ, List.map_cons, List.map_nil, reduceIte, Nat.reduceEqDiff, reduceCtorEq]) <;> rfl)))
      refine JO.nil ?_
      ((repeat (first | refine J.seq ?_ | refine J.block ?_)); refine J.ifF ?_ ?_; (focus ((try simp only [fv, ev, ibin, ishift, sbin, TM.putO, TM.put, tm0, puts, List.getD_cons_zero, List.getD_cons_succ, List.map_cons, List.map_nil, reduceIte, Nat.reduceEqDiff, reduceCtorEq]) <;> rfl)))
      refine J.skip ?_
      ((repeat (first | refine J.seq ?_ | refine J.block ?_)); refine J.region ?_)
      (refine JO.add64 (a := ?_) (b := ?_) ?_ ?_ rfl ?_ ?_ ?_; rotate_left 2; (focus ((try simp only [fv, ev, ibin, ishift, sbin, TM.putO, TM.put, tm0, puts, List.getD_cons_zero, List.getD_cons_succ, List.map_cons, List.map_nil, reduceIte, Nat.reduceEqDiff, reduceCtorEq]) <;> rfl)); (focus ((try simp only [fv, ev, ibin, ishift, sbin, TM.putO, TM.put, tm0, puts, List.getD_cons_zero, List.getD_cons_succ, List.map_cons, List.map_nil, reduceIte, Nat.reduceEqDiff, reduceCtorEq]) <;> rfl)); (focus omega); (focus omega))
      (refine JO.pure (v := ?_) ?_ rfl ?_; rotate_left; (focus ((try simp only [fv, ev, ibin, ishift, sbin, TM.putO, TM.put, tm0, puts, List.getD_cons_zero, List.getD_cons_succ, List.map_cons, List.map_nil, reduceIte, Nat.reduceEqDiff, reduceCtorEq]) <;> rfl)))
      refine JO.nil ?_
      refine ⟨i + 1, by omega, by omega, ⟨rfl, rfl, rfl, rfl, trivial⟩, ?_⟩
      rw [lowTo_same (byt s) i hlb (by omega)]
  · have hge : i = s.size := by have := of_decide_eq_false h; omega
    subst hge
    refine J.exit ?_
    ((repeat (first | refine J.seq ?_ | refine J.block ?_)); refine J.region ?_)
    (refine JO.pure (v := ?_) ?_ rfl ?_; rotate_left; (focus ((try simp only [fv, ev, ibin, ishift, sbin, TM.putO, TM.put, tm0, puts, List.getD_cons_zero, List.getD_cons_succ, List.map_cons, List.map_nil, reduceIte, Nat.reduceEqDiff, reduceCtorEq]) <;> rfl)))
    refine JO.strOwn (bs := (byt s).map lowB) Try.underlying27 Try.underlying9 Try.underlying5 rfl (upd_same _ _ _) ?_ ?_ rfl ?_
    · rw [← byt_length, lowTo_end]
    · simp [byt_length]
    (refine JO.pure (v := ?_) ?_ rfl ?_; rotate_left; (focus ((try simp only [fv, ev, ibin, ishift, sbin, TM.putO, TM.put, tm0, puts, List.getD_cons_zero, List.getD_cons_succ, List.map_cons, List.map_nil, reduceIte, Nat.reduceEqDiff, reduceCtorEq]) <;> rfl)))
    refine JO.nil ?_
    refine J.pop hg (J.ret ?_)
    exact ⟨_, rfl, rfl, rfl⟩
end Go.Proofs.YtljgkjkdmoejfaaAv
