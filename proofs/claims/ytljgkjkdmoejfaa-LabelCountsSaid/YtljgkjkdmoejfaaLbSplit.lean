/- The contract of label.Split: the stretches between points. -/
import Derived.Test.YtljgkjkdmoejfaaAvFz
import Derived.Test.YtljgkjkdmoejfaaLbLower
set_option linter.unusedVariables false
set_option linter.unusedSimpArgs false
namespace Go.Proofs.YtljgkjkdmoejfaaAv
open Go Go.RowKit

/-- A list parted at points. -/
def parts : List UInt8 → List (List UInt8)
  | [] => [[]]
  | c :: l => if c = 46 then [] :: parts l else match parts l with
    | [] => [[c]]
    | p :: ps => (c :: p) :: ps
theorem parts_ne (l : List UInt8) : parts l ≠ [] := by
  cases l with
  | nil => simp [parts]
  | cons c l => simp only [parts]; split <;> (try split) <;> simp
theorem parts_dot (p l : List UInt8) (h : ∀ c ∈ p, c ≠ 46) : parts (p ++ 46 :: l) = p :: parts l := by
  induction p with
  | nil => simp [parts]
  | cons c p ih => simp only [List.cons_append, parts, if_neg (h c (by simp)), ih (fun x hx => h x (by simp [hx]))]
theorem parts_end (p : List UInt8) (h : ∀ c ∈ p, c ≠ 46) : parts p = [p] := by
  induction p with
  | nil => rfl
  | cons c p ih => simp only [parts, if_neg (h c (by simp)), ih (fun x hx => h x (by simp [hx]))]

def split (s : ByteArray) : List ByteArray := (parts (byt s)).map ofBytes

theorem split_J (L : GH) (s : ByteArray) (hs : s.size ≤ 1099511627776) : JF Try.prog 18 [strAV s] L (fun v L' => v = strsAV (split s) ∧ L' = L) := by
  refine JF.body Try.func18 rfl (by simp [Try.f18]) ?_
  ((repeat (first | refine J.seq ?_ | refine J.block ?_)); refine J.region ?_)
  (refine JO.pure (v := ?_) ?_ rfl ?_; rotate_left; (focus ((try simp only [fv, ev, ibin, ishift, sbin, TM.putO, TM.put, tm0, puts, List.getD_cons_zero, List.getD_cons_succ, List.map_cons, List.map_nil, reduceIte, Nat.reduceEqDiff, reduceCtorEq]) <;> rfl)))
  refine JO.nil ?_
  ((repeat (first | refine J.seq ?_ | refine J.block ?_)); refine J.region ?_)
  (refine JO.pure (v := ?_) ?_ rfl ?_; rotate_left; (focus ((try simp only [fv, ev, ibin, ishift, sbin, TM.putO, TM.put, tm0, puts, List.getD_cons_zero, List.getD_cons_succ, List.map_cons, List.map_nil, reduceIte, Nat.reduceEqDiff, reduceCtorEq]) <;> rfl)))
  refine JO.nil ?_
  ((repeat (first | refine J.seq ?_ | refine J.block ?_)); refine J.region ?_)
  (refine JO.pure (v := ?_) ?_ rfl ?_; rotate_left; (focus ((try simp only [fv, ev, ibin, ishift, sbin, TM.putO, TM.put, tm0, puts, List.getD_cons_zero, List.getD_cons_succ, List.map_cons, List.map_nil, reduceIte, Nat.reduceEqDiff, reduceCtorEq]) <;> rfl)))
  refine JO.nil ?_
  ((repeat (first | refine J.seq ?_ | refine J.block ?_)); refine J.region ?_)
  (refine JO.pure (v := ?_) ?_ rfl ?_; rotate_left; (focus ((try simp only [fv, ev, ibin, ishift, sbin, TM.putO, TM.put, tm0, puts, List.getD_cons_zero, List.getD_cons_succ, List.map_cons, List.map_nil, reduceIte, Nat.reduceEqDiff, reduceCtorEq]) <;> rfl)))
  (refine JO.lenStr (b := ?_) Try.underlying9 ?_ rfl ?_; rotate_left; (focus ((try simp only [fv, ev, ibin, ishift, sbin, TM.putO, TM.put, tm0, puts, List.getD_cons_zero, List.getD_cons_succ, List.map_cons, List.map_nil, reduceIte, Nat.reduceEqDiff, reduceCtorEq]) <;> rfl)))
  (refine JO.add64 (a := ?_) (b := ?_) ?_ ?_ rfl ?_ ?_ ?_; rotate_left 2; (focus ((try simp only [fv, ev, ibin, ishift, sbin, TM.putO, TM.put, tm0, puts, List.getD_cons_zero, List.getD_cons_succ, List.map_cons, List.map_nil, reduceIte, Nat.reduceEqDiff, reduceCtorEq]) <;> rfl)); (focus ((try simp only [fv, ev, ibin, ishift, sbin, TM.putO, TM.put, tm0, puts, List.getD_cons_zero, List.getD_cons_succ, List.map_cons, List.map_nil, reduceIte, Nat.reduceEqDiff, reduceCtorEq]) <;> rfl)); (focus omega); (focus omega))
  (refine JO.pure (v := ?_) ?_ rfl ?_; rotate_left; (focus ((try simp only [fv, ev, ibin, ishift, sbin, TM.putO, TM.put, tm0, puts, List.getD_cons_zero, List.getD_cons_succ, List.map_cons, List.map_nil, reduceIte, Nat.reduceEqDiff, reduceCtorEq]) <;> rfl)))
  refine JO.nil ?_
  (repeat (first | refine J.seq ?_ | refine J.block ?_))
  refine J.loopS (σ := List ByteArray × Nat × Nat × Option Nat) (fun x => [(0, strAV s), (3, hv x.2.2.2 1 x.1.length), (4, intAV x.2.1), (8, intAV (s.size + 1 : Nat)), (9, intAV x.2.2.1)]) (fun x => updo L x.2.2.2 ⟨9, true, x.1.map strAV⟩)
    (fun x => Fre L x.2.2.2 ∧ (x.2.2.2 = none → x.1 = []) ∧ x.2.2.1 ≤ s.size + 1 ∧ x.1.length ≤ x.2.2.1 ∧ ((x.2.2.1 = s.size + 1 ∧ x.1 = split s) ∨ (x.2.2.1 ≤ s.size ∧ x.2.1 ≤ x.2.2.1 ∧ x.1 ++ (parts ((byt s).drop x.2.1)).map ofBytes = split s ∧ ∀ c ∈ ((byt s).take x.2.2.1).drop x.2.1, c ≠ 46)))
    (fun x => s.size + 1 - x.2.2.1) ([], 0, 0, none) ⟨(fun g h => by cases h), fun _ => rfl, by simp, by simp, .inr ⟨by simp, by simp, by simp [split], by simp⟩⟩ ⟨rfl, rfl, rfl, rfl, rfl, trivial⟩ rfl ?_
  rintro ⟨out, fr, i, og⟩ t ⟨hF, hnil, hi, hlen, hor⟩
  dsimp only at hF hnil hi hlen hor ⊢
  ((repeat (first | refine J.seq ?_ | refine J.block ?_)); refine J.region ?_)
  (refine JO.pure (v := ?_) ?_ rfl ?_; rotate_left; (focus ((try simp only [fv, ev, ibin, ishift, sbin, TM.putO, TM.put, tm0, puts, List.getD_cons_zero, List.getD_cons_succ, List.map_cons, List.map_nil, reduceIte, Nat.reduceEqDiff, reduceCtorEq]) <;> rfl)))
  refine JO.nil ?_
  ((repeat (first | refine J.seq ?_ | refine J.block ?_)); refine J.cond (b := ?_) ?_ (fun h => ?_) (fun h => ?_); rotate_left; (focus ((try simp only [fv, ev, ibin, ishift, sbin, TM.putO, TM.put, tm0, puts, List.getD_cons_zero, List.getD_cons_succ, List.map_cons, List.map_nil, reduceIte, Nat.reduceEqDiff, reduceCtorEq]) <;> rfl)))
  · have hlt : i ≤ s.size := by have := of_decide_eq_true h; omega
    obtain ⟨_, hfr, hout, hnd⟩ : i ≤ s.size ∧ fr ≤ i ∧ out ++ (parts ((byt s).drop fr)).map ofBytes = split s ∧ ∀ c ∈ ((byt s).take i).drop fr, c ≠ 46 := by
      rcases hor with ⟨h1, _⟩ | h
      · omega
      · exact h
    refine J.skip ?_
    ((repeat (first | refine J.seq ?_ | refine J.block ?_)); refine J.region ?_)
    iterate 2 (refine JO.pure (v := ?_) ?_ rfl ?_; rotate_left; (focus ((try simp only [fv, ev, ibin, ishift, sbin, TM.putO, TM.put, tm0, puts, List.getD_cons_zero, List.getD_cons_succ, List.map_cons, List.map_nil, reduceIte, Nat.reduceEqDiff, reduceCtorEq]) <;> rfl)))
    refine JO.nil ?_
    ((repeat (first | refine J.seq ?_ | refine J.block ?_)); refine J.region ?_)
    iterate 2 (refine JO.pure (v := ?_) ?_ rfl ?_; rotate_left; (focus ((try simp only [fv, ev, ibin, ishift, sbin, TM.putO, TM.put, tm0, puts, List.getD_cons_zero, List.getD_cons_succ, List.map_cons, List.map_nil, reduceIte, Nat.reduceEqDiff, reduceCtorEq]) <;> rfl)))
    (refine JO.lenStr (b := ?_) Try.underlying9 ?_ rfl ?_; rotate_left; (focus ((try simp only [fv, ev, ibin, ishift, sbin, TM.putO, TM.put, tm0, puts, List.getD_cons_zero, List.getD_cons_succ, List.map_cons, List.map_nil, reduceIte, Nat.reduceEqDiff, reduceCtorEq]) <;> rfl)))
    have hsz : ∀ x y : ByteArray, x = y → byt x = byt y := fun x y h => by rw [h]
    -- the piece between two points
    have piece : ∀ (b : List UInt8), b = ((byt s).take i).drop fr → s.extract (fr : Int).toNat (i : Int).toNat = ofBytes b := by
      intro b hb
      apply byt_inj
      rw [byt_cut, byt_of, hb]
      simp
    by_cases he : i = s.size
    · subst he
      (refine JO.pureB (c := ?_) true ?_ ?_ rfl ?_; rotate_left; (focus ((try simp only [fv, ev, ibin, ishift, sbin, TM.putO, TM.put, tm0, puts, List.getD_cons_zero, List.getD_cons_succ, List.map_cons, List.map_nil, reduceIte, Nat.reduceEqDiff, reduceCtorEq]) <;> rfl)); (focus (simp)))
      (refine JO.pure (v := ?_) ?_ rfl ?_; rotate_left; (focus ((try simp only [fv, ev, ibin, ishift, sbin, TM.putO, TM.put, tm0, puts, List.getD_cons_zero, List.getD_cons_succ, List.map_cons, List.map_nil, reduceIte, Nat.reduceEqDiff, reduceCtorEq]) <;> rfl)))
      (refine R.off (c := ?_) rfl rfl rfl ?_ ?_ ?_; rotate_left; (focus ((try simp only [fv, ev, ibin, ishift, sbin, TM.putO, TM.put, tm0, puts, List.getD_cons_zero, List.getD_cons_succ, List.map_cons, List.map_nil, reduceIte, Nat.reduceEqDiff, reduceCtorEq]) <;> rfl)); (focus rfl))
      (refine R.off (c := ?_) rfl rfl rfl ?_ ?_ ?_; rotate_left; (focus ((try simp only [fv, ev, ibin, ishift, sbin, TM.putO, TM.put, tm0, puts, List.getD_cons_zero, List.getD_cons_succ, List.map_cons, List.map_nil, reduceIte, Nat.reduceEqDiff, reduceCtorEq]) <;> rfl)); (focus rfl))
      (refine R.off (c := ?_) rfl rfl rfl ?_ ?_ ?_; rotate_left; (focus ((try simp only [fv, ev, ibin, ishift, sbin, TM.putO, TM.put, tm0, puts, List.getD_cons_zero, List.getD_cons_succ, List.map_cons, List.map_nil, reduceIte, Nat.reduceEqDiff, reduceCtorEq]) <;> rfl)); (focus rfl))
      (refine R.off (c := ?_) rfl rfl rfl ?_ ?_ ?_; rotate_left; (focus ((try simp only [fv, ev, ibin, ishift, sbin, TM.putO, TM.put, tm0, puts, List.getD_cons_zero, List.getD_cons_succ, List.map_cons, List.map_nil, reduceIte, Nat.reduceEqDiff, reduceCtorEq]) <;> rfl)); (focus rfl))
      (refine JO.pure (v := ?_) ?_ rfl ?_; rotate_left; (focus ((try simp only [fv, ev, ibin, ishift, sbin, TM.putO, TM.put, tm0, puts, List.getD_cons_zero, List.getD_cons_succ, List.map_cons, List.map_nil, reduceIte, Nat.reduceEqDiff, reduceCtorEq]) <;> rfl)))
      refine JO.nil ?_
      ((repeat (first | refine J.seq ?_ | refine J.block ?_)); refine J.ifT ?_ ?_; (focus ((try simp only [fv, ev, ibin, ishift, sbin, TM.putO, TM.put, tm0, puts, List.getD_cons_zero, List.getD_cons_succ, List.map_cons, List.map_nil, reduceIte, Nat.reduceEqDiff, reduceCtorEq]) <;> rfl)))
      ((repeat (first | refine J.seq ?_ | refine J.block ?_)); refine J.region ?_)
      iterate 4 (refine JO.pure (v := ?_) ?_ rfl ?_; rotate_left; (focus ((try simp only [fv, ev, ibin, ishift, sbin, TM.putO, TM.put, tm0, puts, List.getD_cons_zero, List.getD_cons_succ, List.map_cons, List.map_nil, reduceIte, Nat.reduceEqDiff, reduceCtorEq]) <;> rfl)))
      refine JO.cutStr (l := fr) (h := s.size) Try.underlying9 rfl ⟨_, rfl⟩ ⟨_, rfl⟩ rfl (by omega) (by omega) (by omega) ?_
      refine R.litFz (xs := [.tmp 26]) (vs := [strAV (s.extract (fr : Int).toNat (s.size : Int).toNat)]) Try.underlying29 TI9 rfl rfl (by simp [strAV, AV.cells, ones, AV.one, Value.oneCell']) (by simp [strAV, AV.cells]) (by omega) rfl rfl ?_
      refine R.append (m := 1) (ys := [strAV (s.extract (fr : Int).toNat (s.size : Int).toNat)]) (n := out.length) Try.underlying29 TI9 rfl hF rfl (by intro h; simp [hnil h]) (by simp) rfl rfl rfl (by omega) (by omega) (by omega) rfl ?_
      intro og' hF' hnil'
      (refine JO.pure (v := ?_) ?_ rfl ?_; rotate_left; (focus ((try simp only [fv, ev, ibin, ishift, sbin, TM.putO, TM.put, tm0, puts, List.getD_cons_zero, List.getD_cons_succ, List.map_cons, List.map_nil, reduceIte, Nat.reduceEqDiff, reduceCtorEq]) <;> rfl)))
      refine JO.nil ?_
      ((repeat (first | refine J.seq ?_ | refine J.block ?_)); refine J.region ?_)
      (refine JO.pure (v := ?_) ?_ rfl ?_; rotate_left; (focus ((try simp only [fv, ev, ibin, ishift, sbin, TM.putO, TM.put, tm0, puts, List.getD_cons_zero, List.getD_cons_succ, List.map_cons, List.map_nil, reduceIte, Nat.reduceEqDiff, reduceCtorEq]) <;> rfl)))
      (refine JO.add64 (a := ?_) (b := ?_) ?_ ?_ rfl ?_ ?_ ?_; rotate_left 2; (focus ((try simp only [fv, ev, ibin, ishift, sbin, TM.putO, TM.put, tm0, puts, List.getD_cons_zero, List.getD_cons_succ, List.map_cons, List.map_nil, reduceIte, Nat.reduceEqDiff, reduceCtorEq]) <;> rfl)); (focus ((try simp only [fv, ev, ibin, ishift, sbin, TM.putO, TM.put, tm0, puts, List.getD_cons_zero, List.getD_cons_succ, List.map_cons, List.map_nil, reduceIte, Nat.reduceEqDiff, reduceCtorEq]) <;> rfl)); (focus omega); (focus omega))
      (refine JO.pure (v := ?_) ?_ rfl ?_; rotate_left; (focus ((try simp only [fv, ev, ibin, ishift, sbin, TM.putO, TM.put, tm0, puts, List.getD_cons_zero, List.getD_cons_succ, List.map_cons, List.map_nil, reduceIte, Nat.reduceEqDiff, reduceCtorEq]) <;> rfl)))
      refine JO.nil ?_
      ((repeat (first | refine J.seq ?_ | refine J.block ?_)); refine J.region ?_)
      (refine JO.add64 (a := ?_) (b := ?_) ?_ ?_ rfl ?_ ?_ ?_; rotate_left 2; (focus ((try simp only [fv, ev, ibin, ishift, sbin, TM.putO, TM.put, tm0, puts, List.getD_cons_zero, List.getD_cons_succ, List.map_cons, List.map_nil, reduceIte, Nat.reduceEqDiff, reduceCtorEq]) <;> rfl)); (focus ((try simp only [fv, ev, ibin, ishift, sbin, TM.putO, TM.put, tm0, puts, List.getD_cons_zero, List.getD_cons_succ, List.map_cons, List.map_nil, reduceIte, Nat.reduceEqDiff, reduceCtorEq]) <;> rfl)); (focus omega); (focus omega))
      (refine JO.pure (v := ?_) ?_ rfl ?_; rotate_left; (focus ((try simp only [fv, ev, ibin, ishift, sbin, TM.putO, TM.put, tm0, puts, List.getD_cons_zero, List.getD_cons_succ, List.map_cons, List.map_nil, reduceIte, Nat.reduceEqDiff, reduceCtorEq]) <;> rfl)))
      refine JO.nil ?_
      refine ⟨(out ++ [s.extract (fr : Int).toNat (s.size : Int).toNat], s.size + 1, s.size + 1, og'), ⟨hF', ?_, by simp, by simp; omega, .inl ⟨rfl, ?_⟩⟩, by simp, ⟨rfl, ?_, rfl, rfl, rfl, trivial⟩, ?_⟩
      · intro h; have := (hnil' h).1; simp at this
      · rw [← hout]
        dsimp only
        congr 1
        rw [piece _ rfl]
        have e1 : (byt s).take s.size = byt s := by rw [List.take_of_length_le]; rw [byt_length]; exact Nat.le_refl _
        rw [e1] at hnd ⊢
        rw [parts_end _ hnd]
        rfl
      · show hv og' 1 (out.length + 1) = hv og' 1 (out ++ [_]).length
        rw [List.length_append]
        rfl
      · simp
    · have hlt2 : i < s.size := by omega
      have hlb : i < (byt s).length := by rw [byt_length]; exact hlt2
      have hby := sbyte_get s i hlb
      (refine JO.pureB (c := ?_) false ?_ ?_ rfl ?_; rotate_left; (focus ((try simp only [fv, ev, ibin, ishift, sbin, TM.putO, TM.put, tm0, puts, List.getD_cons_zero, List.getD_cons_succ, List.map_cons, List.map_nil, reduceIte, Nat.reduceEqDiff, reduceCtorEq]) <;> rfl)); (focus (simp <;> omega)))
      (refine JO.pure (v := ?_) ?_ rfl ?_; rotate_left; (focus ((try simp only [fv, ev, ibin, ishift, sbin, TM.putO, TM.put, tm0, puts, List.getD_cons_zero, List.getD_cons_succ, List.map_cons, List.map_nil, reduceIte, Nat.reduceEqDiff, reduceCtorEq]) <;> rfl)))
      (refine R.on (c := ?_) rfl rfl ?_ ?_ ?_; rotate_left; (focus ((try simp only [fv, ev, ibin, ishift, sbin, TM.putO, TM.put, tm0, puts, List.getD_cons_zero, List.getD_cons_succ, List.map_cons, List.map_nil, reduceIte, Nat.reduceEqDiff, reduceCtorEq]) <;> rfl)); (focus rfl))
      (refine JO.pure (v := ?_) ?_ rfl ?_; rotate_left; (focus ((try simp only [fv, ev, ibin, ishift, sbin, TM.putO, TM.put, tm0, puts, List.getD_cons_zero, List.getD_cons_succ, List.map_cons, List.map_nil, reduceIte, Nat.reduceEqDiff, reduceCtorEq]) <;> rfl)))
      (refine R.on (c := ?_) rfl rfl ?_ ?_ ?_; rotate_left; (focus ((try simp only [fv, ev, ibin, ishift, sbin, TM.putO, TM.put, tm0, puts, List.getD_cons_zero, List.getD_cons_succ, List.map_cons, List.map_nil, reduceIte, Nat.reduceEqDiff, reduceCtorEq]) <;> rfl)); (focus rfl))
      (refine JO.pure (v := ?_) ?_ rfl ?_; rotate_left; (focus ((try simp only [fv, ev, ibin, ishift, sbin, TM.putO, TM.put, tm0, puts, List.getD_cons_zero, List.getD_cons_succ, List.map_cons, List.map_nil, reduceIte, Nat.reduceEqDiff, reduceCtorEq]) <;> rfl)))
      (refine R.on (c := ?_) rfl rfl ?_ ?_ ?_; rotate_left; (focus ((try simp only [fv, ev, ibin, ishift, sbin, TM.putO, TM.put, tm0, puts, List.getD_cons_zero, List.getD_cons_succ, List.map_cons, List.map_nil, reduceIte, Nat.reduceEqDiff, reduceCtorEq]) <;> rfl)); (focus rfl))
      refine JO.idxStr Try.underlying9 rfl rfl rfl (by omega) (by omega) ?_
      rw [hby]
      have htk : (byt s).take (i + 1) = (byt s).take i ++ [(byt s)[i]] := List.take_succ_eq_append_getElem hlb
      have hdr : (byt s).drop fr = ((byt s).take i).drop fr ++ (byt s)[i] :: (byt s).drop (i + 1) := by
        conv => lhs; rw [← List.take_append_drop i (byt s), List.drop_eq_getElem_cons hlb]
        rw [List.drop_append_of_le_length (by simp; omega)]
      by_cases hd : (byt s)[i] = 46
      · (refine R.on (c := ?_) rfl rfl ?_ ?_ ?_; rotate_left; (focus ((try simp only [fv, ev, ibin, ishift, sbin, TM.putO, TM.put, tm0, puts, List.getD_cons_zero, List.getD_cons_succ, List.map_cons, List.map_nil, reduceIte, Nat.reduceEqDiff, reduceCtorEq]) <;> rfl)); (focus rfl))
        (refine JO.pureB (c := ?_) true ?_ ?_ rfl ?_; rotate_left; (focus ((try simp only [fv, ev, ibin, ishift, sbin, TM.putO, TM.put, tm0, puts, List.getD_cons_zero, List.getD_cons_succ, List.map_cons, List.map_nil, reduceIte, Nat.reduceEqDiff, reduceCtorEq]) <;> rfl)); (focus (rw [hd]; rfl)))
        (refine JO.pure (v := ?_) ?_ rfl ?_; rotate_left; (focus ((try simp only [fv, ev, ibin, ishift, sbin, TM.putO, TM.put, tm0, puts, List.getD_cons_zero, List.getD_cons_succ, List.map_cons, List.map_nil, reduceIte, Nat.reduceEqDiff, reduceCtorEq]) <;> rfl)))
        refine JO.nil ?_
        ((repeat (first | refine J.seq ?_ | refine J.block ?_)); refine J.ifT ?_ ?_; (focus ((try simp only [fv, ev, ibin, ishift, sbin, TM.putO, TM.put, tm0, puts, List.getD_cons_zero, List.getD_cons_succ, List.map_cons, List.map_nil, reduceIte, Nat.reduceEqDiff, reduceCtorEq]) <;> rfl)))
        ((repeat (first | refine J.seq ?_ | refine J.block ?_)); refine J.region ?_)
        iterate 4 (refine JO.pure (v := ?_) ?_ rfl ?_; rotate_left; (focus ((try simp only [fv, ev, ibin, ishift, sbin, TM.putO, TM.put, tm0, puts, List.getD_cons_zero, List.getD_cons_succ, List.map_cons, List.map_nil, reduceIte, Nat.reduceEqDiff, reduceCtorEq]) <;> rfl)))
        refine JO.cutStr (l := fr) (h := i) Try.underlying9 rfl ⟨_, rfl⟩ ⟨_, rfl⟩ rfl (by omega) (by omega) (by omega) ?_
        refine R.litFz (xs := [.tmp 26]) (vs := [strAV (s.extract (fr : Int).toNat (i : Int).toNat)]) Try.underlying29 TI9 rfl rfl (by simp [strAV, AV.cells, ones, AV.one, Value.oneCell']) (by simp [strAV, AV.cells]) (by omega) rfl rfl ?_
        refine R.append (m := 1) (ys := [strAV (s.extract (fr : Int).toNat (i : Int).toNat)]) (n := out.length) Try.underlying29 TI9 rfl hF rfl (by intro h; simp [hnil h]) (by simp) rfl rfl rfl (by omega) (by omega) (by omega) rfl ?_
        intro og' hF' hnil'
        (refine JO.pure (v := ?_) ?_ rfl ?_; rotate_left; (focus ((try simp only [fv, ev, ibin, ishift, sbin, TM.putO, TM.put, tm0, puts, List.getD_cons_zero, List.getD_cons_succ, List.map_cons, List.map_nil, reduceIte, Nat.reduceEqDiff, reduceCtorEq]) <;> rfl)))
        refine JO.nil ?_
        ((repeat (first | refine J.seq ?_ | refine J.block ?_)); refine J.region ?_)
        (refine JO.pure (v := ?_) ?_ rfl ?_; rotate_left; (focus ((try simp only [fv, ev, ibin, ishift, sbin, TM.putO, TM.put, tm0, puts, List.getD_cons_zero, List.getD_cons_succ, List.map_cons, List.map_nil, reduceIte, Nat.reduceEqDiff, reduceCtorEq]) <;> rfl)))
        (refine JO.add64 (a := ?_) (b := ?_) ?_ ?_ rfl ?_ ?_ ?_; rotate_left 2; (focus ((try simp only [fv, ev, ibin, ishift, sbin, TM.putO, TM.put, tm0, puts, List.getD_cons_zero, List.getD_cons_succ, List.map_cons, List.map_nil, reduceIte, Nat.reduceEqDiff, reduceCtorEq]) <;> rfl)); (focus ((try simp only [fv, ev, ibin, ishift, sbin, TM.putO, TM.put, tm0, puts, List.getD_cons_zero, List.getD_cons_succ, List.map_cons, List.map_nil, reduceIte, Nat.reduceEqDiff, reduceCtorEq]) <;> rfl)); (focus omega); (focus omega))
        (refine JO.pure (v := ?_) ?_ rfl ?_; rotate_left; (focus ((try simp only [fv, ev, ibin, ishift, sbin, TM.putO, TM.put, tm0, puts, List.getD_cons_zero, List.getD_cons_succ, List.map_cons, List.map_nil, reduceIte, Nat.reduceEqDiff, reduceCtorEq]) <;> rfl)))
        refine JO.nil ?_
        ((repeat (first | refine J.seq ?_ | refine J.block ?_)); refine J.region ?_)
        (refine JO.add64 (a := ?_) (b := ?_) ?_ ?_ rfl ?_ ?_ ?_; rotate_left 2; (focus ((try simp only [fv, ev, ibin, ishift, sbin, TM.putO, TM.put, tm0, puts, List.getD_cons_zero, List.getD_cons_succ, List.map_cons, List.map_nil, reduceIte, Nat.reduceEqDiff, reduceCtorEq]) <;> rfl)); (focus ((try simp only [fv, ev, ibin, ishift, sbin, TM.putO, TM.put, tm0, puts, List.getD_cons_zero, List.getD_cons_succ, List.map_cons, List.map_nil, reduceIte, Nat.reduceEqDiff, reduceCtorEq]) <;> rfl)); (focus omega); (focus omega))
        (refine JO.pure (v := ?_) ?_ rfl ?_; rotate_left; (focus ((try simp only [fv, ev, ibin, ishift, sbin, TM.putO, TM.put, tm0, puts, List.getD_cons_zero, List.getD_cons_succ, List.map_cons, List.map_nil, reduceIte, Nat.reduceEqDiff, reduceCtorEq]) <;> rfl)))
        refine JO.nil ?_
        refine ⟨(out ++ [s.extract (fr : Int).toNat (i : Int).toNat], i + 1, i + 1, og'), ⟨hF', ?_, by simp; omega, by simp; omega, .inr ⟨by simp; omega, by simp, ?_, by simp⟩⟩, by simp; omega, ⟨rfl, ?_, rfl, rfl, rfl, trivial⟩, ?_⟩
        · intro h; have := (hnil' h).1; simp at this
        · dsimp only
          rw [← hout, hdr, hd, parts_dot _ _ hnd, piece _ rfl, List.map_cons]
          simp
        · show hv og' 1 (out.length + 1) = hv og' 1 (out ++ [_]).length
          rw [List.length_append]
          rfl
        · simp
      · (refine R.on (c := ?_) rfl rfl ?_ ?_ ?_; rotate_left; (focus ((try simp only [fv, ev, ibin, ishift, sbin, TM.putO, TM.put, tm0, puts, List.getD_cons_zero, List.getD_cons_succ, List.map_cons, List.map_nil, reduceIte, Nat.reduceEqDiff, reduceCtorEq]) <;> rfl)); (focus rfl))
        (refine JO.pureB (c := ?_) false ?_ ?_ rfl ?_; rotate_left; (focus ((try simp only [fv, ev, ibin, ishift, sbin, TM.putO, TM.put, tm0, puts, List.getD_cons_zero, List.getD_cons_succ, List.map_cons, List.map_nil, reduceIte, Nat.reduceEqDiff, reduceCtorEq]) <;> rfl)); (focus (simp [← UInt8.toNat_inj] at hd ⊢ <;> omega)))
        (refine JO.pure (v := ?_) ?_ rfl ?_; rotate_left; (focus ((try simp only [fv, ev, ibin, ishift, sbin, TM.putO, TM.put, tm0, puts, List.getD_cons_zero, List.getD_cons_succ, List.map_cons, List.map_nil, reduceIte, Nat.reduceEqDiff, reduceCtorEq]) <;> rfl)))
        refine JO.nil ?_
        ((repeat (first | refine J.seq ?_ | refine J.block ?_)); refine J.ifF ?_ ?_; (focus ((try simp only [fv, ev, ibin, ishift, sbin, TM.putO, TM.put, tm0, puts, List.getD_cons_zero, List.getD_cons_succ, List.map_cons, List.map_nil, reduceIte, Nat.reduceEqDiff, reduceCtorEq]) <;> rfl)))
        refine J.skip ?_
        ((repeat (first | refine J.seq ?_ | refine J.block ?_)); refine J.region ?_)
        (refine JO.add64 (a := ?_) (b := ?_) ?_ ?_ rfl ?_ ?_ ?_; rotate_left 2; (focus ((try simp only [fv, ev, ibin, ishift, sbin, TM.putO, TM.put, tm0, puts, List.getD_cons_zero, List.getD_cons_succ, List.map_cons, List.map_nil, reduceIte, Nat.reduceEqDiff, reduceCtorEq]) <;> rfl)); (focus ((try simp only [fv, ev, ibin, ishift, sbin, TM.putO, TM.put, tm0, puts, List.getD_cons_zero, List.getD_cons_succ, List.map_cons, List.map_nil, reduceIte, Nat.reduceEqDiff, reduceCtorEq]) <;> rfl)); (focus omega); (focus omega))
        (refine JO.pure (v := ?_) ?_ rfl ?_; rotate_left; (focus ((try simp only [fv, ev, ibin, ishift, sbin, TM.putO, TM.put, tm0, puts, List.getD_cons_zero, List.getD_cons_succ, List.map_cons, List.map_nil, reduceIte, Nat.reduceEqDiff, reduceCtorEq]) <;> rfl)))
        refine JO.nil ?_
        refine ⟨(out, fr, i + 1, og), ⟨hF, hnil, by simp; omega, by simp; omega, .inr ⟨by simp; omega, by simp; omega, hout, ?_⟩⟩, by simp; omega, ⟨rfl, rfl, rfl, rfl, rfl, trivial⟩, rfl⟩
        dsimp only
        rw [htk, List.drop_append_of_le_length (by simp; omega)]
        intro c hc
        rcases List.mem_append.1 hc with hc | hc
        · exact hnd c hc
        · rw [List.mem_singleton.1 hc]; exact hd
  · have hge : i = s.size + 1 := by have := of_decide_eq_false h; omega
    obtain ⟨_, rfl⟩ : i = s.size + 1 ∧ out = split s := by
      rcases hor with h | ⟨h1, _⟩
      · exact h
      · omega
    refine J.exit ?_
    ((repeat (first | refine J.seq ?_ | refine J.block ?_)); refine J.region ?_)
    iterate 2 (refine JO.pure (v := ?_) ?_ rfl ?_; rotate_left; (focus ((try simp only [fv, ev, ibin, ishift, sbin, TM.putO, TM.put, tm0, puts, List.getD_cons_zero, List.getD_cons_succ, List.map_cons, List.map_nil, reduceIte, Nat.reduceEqDiff, reduceCtorEq]) <;> rfl)))
    refine JO.nil ?_
    refine J.freeze (sz := 1) (n := (split s).length) 2 hF rfl (by intro h; simp [hnil h]) (by simp) (J.ret ?_)
    exact ⟨_, rfl, rfl, rfl⟩
end Go.Proofs.YtljgkjkdmoejfaaAv
