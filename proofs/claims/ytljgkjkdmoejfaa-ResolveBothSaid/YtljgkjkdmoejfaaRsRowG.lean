/- From contracts to a row's words. -/
import Derived.Test.YtljgkjkdmoejfaaAvXl
import Derived.Test.YtljgkjkdmoejfaaAvRow
set_option linter.unusedVariables false
set_option linter.unusedSimpArgs false
namespace Go.Proofs.YtljgkjkdmoejfaaAv
open Go Go.RowKit
theorem ints_rv (ρ : Rho) (l : List Int) : RV ρ (sqX 1 (fun s => [XI s]) (Sq.ofList l 0)) (intsAV l) := by
  simp only [sqX, RV, toAV, intsAV, Sq.ofList]
  congr 1
  apply List.ext_getElem?
  intro i
  rw [List.getElem?_map]
  rcases Nat.lt_or_ge i l.length with h | h
  · have := vecOf_get (n := l.length) (sz := 1) (g := fun i => toAVL [XI (l.getD i 0)]) (i := i) (o := 0) h (by omega)
    simp only [Nat.mul_one, Nat.add_zero] at this
    rw [this, List.getElem?_eq_getElem h]
    simp [toAVL, toAV, intAV, List.getD_eq_getElem?_getD, List.getElem?_eq_getElem h]
  · rw [List.getElem?_eq_none h, List.getElem?_eq_none (by rw [vecOf_length]; omega)]
    rfl
/-- A law's run, out of its contract. -/
theorem law_J {P : Program} {f : FuncId} {C : CT} (h : CTok P f C) {xs : List XV} {bs : List AV} {cs : List Prop} (hC : C xs = some (cs, XB true)) (hc : ∀ p ∈ cs, p) (hv : RVL (fun _ => none) xs bs) (L : GH) : JF P f bs L (fun v L' => v = boolAV true ∧ L' = L) := by
  obtain ⟨v', h1, h2⟩ := h.2 xs cs _ hC hc _ bs hv
  simp only [RV] at h1
  exact (h2 L).mono fun v L' ⟨e1, e2⟩ => ⟨by rw [e1, h1]; rfl, e2⟩
end Go.Proofs.YtljgkjkdmoejfaaAv
