/-
  ABSTRACT VALUES over the model (own framework, part 9): steps; slices that are only read from now on.
-/
import Derived.Test.YtljgkjkdmoejfaaAvAgg
set_option linter.unusedVariables false
set_option linter.unusedSimpArgs false
namespace Go.Proofs.YtljgkjkdmoejfaaAv
open Go Go.RowKit

/-- One operation, and what is told of the slots behind it; the blocks told stay. -/
def Step (P : Program) (N : Nat) (ops : Array Oper) (o : Oper) (t : TM) (L : GH) (t' : TM) : Prop := ∀ Q os, JO P N ops Q os t' L → JO P N ops Q (o :: os) t L

/-- A slice of one's own, in slot s, is only read from now on: within a region. -/
theorem JO.freeze {P : Program} {N : Nat} {ops : Array Oper} {os : List Oper} {Q : Exit → TM → GH → Prop} {t : TM} {L : GH} {og : Option Nat} {r : Row} {sz n : Nat} (s : Nat) (hF : Fre L og) (ht : t s = hv og sz n) (hnil : og = none → r.cs = [] ∧ n = 0) (hl : r.cs.length = n * sz)
    (h : JO P N ops Q os (t.put s (.fz n r.cs)) L) : JO P N ops Q os t (updo L og r) := by
  intro L0 w0 a w he hs
  have hd : ∀ b, updo L og r b = none → L b = none := fun b hb => (updo_none hb).2
  have hx := Ext.drop w hd
  have hs' := hs.ext hx (fun g q hg => by
    cases og with
    | none => exact (hs.rows g q hg).ext hx rfl
    | some g0 =>
      have hne : g ≠ g0 := by rintro rfl; rw [hF g rfl] at hg; cases hg
      exact (hs.rows g q (by show upd L g0 r g = some q; rw [upd_ne _ _ _ _ hne]; exact hg)).ext hx rfl)
  refine h L0 w0 a w (he.trans hx) ⟨fun i => ?_, hs'.rows, hs'.size, hs'.df⟩
  unfold TM.put
  split
  · rename_i e
    subst e
    have := hs.tm i
    rw [ht] at this
    exact freeze_VS hF hs.rows hnil hl this
  · exact hs'.tm i

theorem ones_strs (l : List ByteArray) : ones (l.map strAV) = true := by
  simp [ones, strAV, AV.one, Value.oneCell']
theorem cells_strs (l m : List ByteArray) : ([] ++ l.map strAV) ++ m.map strAV = (l ++ m).map strAV := by simp
end Go.Proofs.YtljgkjkdmoejfaaAv
