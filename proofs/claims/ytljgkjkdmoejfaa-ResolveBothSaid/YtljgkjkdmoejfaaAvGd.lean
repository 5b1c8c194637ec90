/-
  ABSTRACT VALUES over the model (own framework, part 8): guards whose test is not settled: the value is told under the test; tests that meet again in a pick.
-/
import Derived.Test.YtljgkjkdmoejfaaAvFz
set_option linter.unusedVariables false
set_option linter.unusedSimpArgs false
namespace Go.Proofs.YtljgkjkdmoejfaaAv
open Go Go.RowKit

/-- One operation has put v into d, and no block told is told otherwise. -/
def one1 (d : Option Nat) (v : AV) (t : TM) (L : GH) : Exit → TM → GH → Prop := fun e t' L' => e = .normal ∧ t' = t.putO d v ∧ L' = L

theorem upon_conv {P : Program} {o : Oper} {a : Act} {w : World} {K K' : Act → World → Prop} {Q Q' : Exit → Act → World → Prop} (h : ∀ a w, K a w → K' a w) (hq : ∀ e a w, Q e a w → e = .normal)
    (hh : o.wp P a w K Q) : o.wp P a w K' Q' := by
  unfold Oper.wp at *
  generalize (execOp a.eval o).run P w = r at *
  cases r with
  | ok n w' =>
    cases n <;> simp only [Oper.upon] at hh ⊢ <;>
      first
        | exact h _ _ hh
        | exact Calls.mono hh (fun e w'' he => by
            cases e with
            | returned v => exact h _ _ he
            | panicked c => exact absurd (hq _ _ _ he) (by simp)
            | outgrown => obtain ⟨a, w, he⟩ := he; exact absurd (hq _ _ _ he) (by simp))
        | exact Rows.mono hh (fun _ _ he => h _ _ he)
  | halt x w' =>
    cases x <;> simp only [Oper.upon] at hh ⊢
    exact absurd (hq _ _ _ hh) (by simp)

section
variable {P : Program} {N : Nat} {ops : Array Oper} {Q : Exit → TM → GH → Prop} {ty : TypeId} {pos : String} {af : Array Edge} {os : List Oper} {t : TM} {L : GH} {d j s : Nat} {op : Op} {v : AV}

theorem one_run {a : Act} {w : World} {L0 : GH} {w0 : World} {o : Oper} (hg : o.guard = none) (h : JO P N ops (one1 o.dst v t L) [o] t L) (he : Ext L0 w0 L w) (s : Sim N t L a w) (k : JO P N ops Q os (t.putO o.dst v) L) :
    o.wp P a w (fun a w => wpList P ops (LQ N L0 w0 Q) os a w) (LQ N L0 w0 Q) := by
  have h1 := h L w a w (Ext.refl _ _) s
  unfold wpList at h1
  rw [if_pos (by simp [Region.wanted, hg])] at h1
  rcases h1 with h1 | ⟨_, a', w', t', L', _, _, h2, _⟩
  · refine upon_conv ?_ ?_ h1
    · rintro a' w' ⟨t', L', s', x', _, rfl, rfl⟩
      exact k L0 w0 a' w' (he.trans x') s'
    · rintro e a' w' ⟨t', L', s', x', h2, _⟩
      exact h2
  · cases h2

/-- A guard that asks for a yes, whichever it is. -/
theorem JO.gdT {c : Bool} (hd : decide (d < N) = true) (hs : decide (s < N) = true) (hj : (ops[j]?).bind (·.dst) = some s) (ht : ev t (.tmp s) = .p (.bool c))
    (hv : c = true → JO P N ops (one1 (some d) v t L) [⟨some d, op, ty, pos, af, none⟩] t L) (k : JO P N ops Q os (t.putO (some d) (bif c then v else .p undef)) L) :
    JO P N ops Q (⟨some d, op, ty, pos, af, some (j, true)⟩ :: os) t L := by
  cases hc : c with
  | true =>
    rw [hc] at k ht
    refine R.on (c := true) hs hj ht rfl ?_
    intro L0 w0 a w he s
    unfold wpList
    rw [if_pos (by simp [Region.wanted])]
    exact .inl (one_run rfl (hv hc) he s k)
  | false =>
    rw [hc] at k ht
    exact R.off (c := false) hd hs hj ht rfl k

/-- A guard that asks for a no, whichever it is. -/
theorem JO.gdF {c : Bool} (hd : decide (d < N) = true) (hs : decide (s < N) = true) (hj : (ops[j]?).bind (·.dst) = some s) (ht : ev t (.tmp s) = .p (.bool c))
    (hv : (!c) = true → JO P N ops (one1 (some d) v t L) [⟨some d, op, ty, pos, af, none⟩] t L) (k : JO P N ops Q os (t.putO (some d) (bif !c then v else .p undef)) L) :
    JO P N ops Q (⟨some d, op, ty, pos, af, some (j, false)⟩ :: os) t L := by
  cases hc : c with
  | false =>
    rw [hc] at k ht
    refine R.on (c := false) hs hj ht rfl ?_
    intro L0 w0 a w he s
    unfold wpList
    rw [if_pos (by simp [Region.wanted])]
    exact .inl (one_run rfl (hv (by rw [hc]; rfl)) he s k)
  | true =>
    rw [hc] at k ht
    exact R.off (c := true) hd hs hj ht rfl k

/-- A guard on a test that was itself asked for under a test. -/
theorem JO.gd2T {c0 c : Bool} (hd : decide (d < N) = true) (hs : decide (s < N) = true) (hj : (ops[j]?).bind (·.dst) = some s) (ht : ev t (.tmp s) = bif c0 then .p (.bool c) else .p undef)
    (hv : (c0 && c) = true → JO P N ops (one1 (some d) v t L) [⟨some d, op, ty, pos, af, none⟩] t L) (k : JO P N ops Q os (t.putO (some d) (bif (c0 && c) then v else .p undef)) L) :
    JO P N ops Q (⟨some d, op, ty, pos, af, some (j, true)⟩ :: os) t L := by
  cases hc : c0 with
  | true =>
    rw [hc] at k ht hv
    exact JO.gdT (c := c) hd hs hj ht (fun h => hv (by simpa using h)) (by simpa using k)
  | false => rw [hc] at k ht; exact R.offU hd hs hj ht k
theorem JO.gd2F {c0 c : Bool} (hd : decide (d < N) = true) (hs : decide (s < N) = true) (hj : (ops[j]?).bind (·.dst) = some s) (ht : ev t (.tmp s) = bif c0 then .p (.bool c) else .p undef)
    (hv : (c0 && !c) = true → JO P N ops (one1 (some d) v t L) [⟨some d, op, ty, pos, af, none⟩] t L) (k : JO P N ops Q os (t.putO (some d) (bif (c0 && !c) then v else .p undef)) L) :
    JO P N ops Q (⟨some d, op, ty, pos, af, some (j, false)⟩ :: os) t L := by
  cases hc : c0 with
  | true =>
    rw [hc] at k ht hv
    exact JO.gdF (c := c) hd hs hj ht (fun h => hv (by simpa using h)) (by simpa using k)
  | false => rw [hc] at k ht; exact R.offU hd hs hj ht k

/-- A choice between two. -/
theorem JO.pick {x a b : Operand} {c : Bool} {A B v : AV} {dd : Option Nat} (hc : ev t x = .p (.bool c)) (ha : c = true → ev t a = A) (hb : (!c) = true → ev t b = B) (hv : (bif c then A else B) = v) (hd : dok N dd = true)
    (k : JO P N ops Q os (t.putO dd v) L) : JO P N ops Q (⟨dd, .pick x a b, ty, pos, af, none⟩ :: os) t L := by
  cases c with
  | true =>
    have h1 := ha rfl
    subst h1
    subst hv
    exact JO.pure (by simp only [fv, hc, cond_true, cond_false]) hd k
  | false =>
    have h1 := hb rfl
    subst h1
    subst hv
    exact JO.pure (by simp only [fv, hc, cond_true, cond_false]) hd k

/-- A call whose value is told, and that leaves what is told as it is. -/
theorem JO.callV {f : FuncId} {fn : Func} {c : Code} {xs : List Operand} {tys : Array TypeId} {dd : Option Nat} (hf : P.funcs[f]? = some fn) (hb : fn.body = some c) (hr : (fn.name == "runtime.NumGoroutine") = false)
    (hd : dok N dd = true) (h : JF P f (xs.map (ev t)) L (fun v' L' => v' = v ∧ L' = L)) (K : JO P N ops Q os (t.putO dd v) L) :
    JO P N ops Q (⟨dd, .call { callee := .value (.func f), args := xs.toArray, argTypes := tys }, ty, pos, af, none⟩ :: os) t L :=
  JO.call hf hb hr hd h fun v' L' ⟨h1, h2⟩ => by rw [h1, h2]; exact K

theorem size_lit (x : Array UInt8) : ByteArray.size ⟨x⟩ = x.size := rfl
theorem cond_pb (c a b : Bool) : (bif c then AV.p (.bool a) else AV.p (.bool b)) = .p (.bool (bif c then a else b)) := by cases c <;> rfl
theorem cond_pbT (c b : Bool) : (bif c then AV.p (.bool true) else AV.p (.bool b)) = .p (.bool (c || b)) := by cases c <;> rfl
theorem cond_pbF (c a : Bool) : (bif c then AV.p (.bool a) else AV.p (.bool false)) = .p (.bool (c && a)) := by cases c <;> rfl
theorem cond_same (c : Bool) (a : AV) : (bif c then a else a) = a := by cases c <;> rfl
end
end Go.Proofs.YtljgkjkdmoejfaaAv
