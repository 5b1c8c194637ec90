/-
  ABSTRACT VALUES over the model (own framework, part 7): a slice of one's own that is only read from now on.
-/
import Derived.Test.YtljgkjkdmoejfaaAvLoop
set_option linter.unusedVariables false
set_option linter.unusedSimpArgs false
namespace Go.Proofs.YtljgkjkdmoejfaaAv
open Go Go.RowKit

theorem freeze_VS {L : GH} {w : World} {og : Option Nat} {r : Row} {sz n : Nat} {x : Value} (hF : Fre L og) (hr : ∀ g s, updo L og r g = some s → RowR (updo L og r) w g s) (hnil : og = none → r.cs = [] ∧ n = 0) (hl : r.cs.length = n * sz)
    (hx : VS (updo L og r) w (hv og sz n) x) : VS L w (.fz n r.cs) x := by
  cases og with
  | none =>
    simp only [hv, VS] at hx ⊢
    obtain ⟨h1, h2⟩ := hnil rfl
    rw [h1, h2]
    exact ⟨none, 0, [], hx, Nat.le_refl _, .inl rfl, by simp [VSL]⟩
  | some g =>
    simp only [hv, VS] at hx ⊢
    obtain ⟨a, cap, rfl, hn, hc⟩ := hx
    obtain ⟨c, fr, vs, hh, _, _, hle, hvs, hv, h1⟩ := hr g r (upd_same _ _ _)
    have hd : ∀ b, updo L (some g) r b = none → L b = none := fun b hb => (updo_none hb).2
    refine ⟨a, cap, vs, rfl, hn, ?_, VSL.ext (Ext.drop w hd) _ _ hv⟩
    rcases hc with hc | ⟨rfl, _⟩
    · left
      have : n = 0 := by omega
      rw [this, Nat.zero_mul] at hl
      have := hv.length
      exact List.length_eq_zero_iff.1 (by omega)
    · refine .inr ⟨_, rfl, hF g rfl, h1, fun i v hi => ?_⟩
      rw [add_plain, Nat.zero_add]
      rw [hvs, List.getElem?_take] at hi
      split at hi
      · simp only [World.cell?, hh]
        simpa using hi
      · cases hi

/-- A slice of one's own, in slot s, is only read from now on. -/
theorem J.freeze {P : Program} {N : Nat} {c : Code} {Q : Exit → TM → GH → Prop} {t : TM} {L : GH} {og : Option Nat} {r : Row} {sz n : Nat} (s : Nat) (hF : Fre L og) (ht : t s = hv og sz n) (hnil : og = none → r.cs = [] ∧ n = 0) (hl : r.cs.length = n * sz)
    (h : J P N c Q (t.put s (.fz n r.cs)) L) : J P N c Q t (updo L og r) := by
  intro L0 w0 a w he hs
  have hd : ∀ b, updo L og r b = none → L b = none := fun b hb => (updo_none hb).2
  have hx := Ext.drop w hd
  have hs' := hs.ext hx (fun g q hg => by
    cases og with
    | none => exact (hs.rows g q hg).ext hx rfl
    | some g0 =>
      have hne : g ≠ g0 := by rintro rfl; rw [hF g rfl] at hg; cases hg
      exact (hs.rows g q (by show upd L g0 r g = some q; rw [upd_ne _ _ _ _ hne]; exact hg)).ext hx rfl)
  refine h L0 w0 a w (he.trans hx) ⟨fun i => ?_, hs'.rows, hs'.size, hs'.df⟩
  unfold TM.put
  split
  · rename_i e
    subst e
    have := hs.tm i
    rw [ht] at this
    exact freeze_VS hF hs.rows hnil hl this
  · exact hs'.tm i

/-- Nothing of it is told any more. -/
theorem J.popo {P : Program} {N : Nat} {c : Code} {Q : Exit → TM → GH → Prop} {t : TM} {L : GH} {og : Option Nat} {r : Row} (hF : Fre L og) (h : J P N c Q t L) : J P N c Q t (updo L og r) := by
  cases og with
  | none => exact h
  | some g => exact h.pop (hF g rfl)

/-- Where ways meet again: a few slots alone are told of what lies behind. -/
theorem J.cut {P : Program} {N : Nat} {x y : Code} {Q : Exit → TM → GH → Prop} {t : TM} {L : GH} (l : List (Nat × AV)) (L1 : GH) (h1 : J P N x (thn (fun t' L' => Eta t' l ∧ L' = L1) Q) t L) (h2 : ∀ t, J P N y Q (puts t l) L1) : J P N (.seq x y) Q t L := by
  refine J.seq (h1.mono ?_)
  intro e t L q
  cases e with
  | normal =>
    obtain ⟨q, rfl⟩ := q
    exact J.keep l q h2
  | exit id => exact q
  | goto l => exact q
  | ret => exact q
  | panic ch => exact q
  | outgrown => exact q

/-- No block is one's own. -/
def noL : GH := fun _ => none
theorem JF.calls {P : Program} {f : FuncId} {args : List AV} (h : JF P f args noL (fun v L' => v = boolAV true ∧ L' = noL)) (W : World) (hg : Glb noL W) (xs : List Value) (hv : VSL noL W args xs) :
    Calls P f xs.toArray W fun e W' => e = .returned (.bool true) ∧ Below W.heap.size W W' :=
  (h W xs hg hv (fun g r h => by cases h)).mono fun e w' ⟨v, x, L', he, hx, _, hxt, h1, _⟩ => by
    subst h1
    simp only [boolAV, VS] at hx
    subst hx
    exact ⟨he, hxt.os, hxt.tape, hxt.output, hxt.size, fun b hb => hxt.keep b hb rfl⟩

end Go.Proofs.YtljgkjkdmoejfaaAv
