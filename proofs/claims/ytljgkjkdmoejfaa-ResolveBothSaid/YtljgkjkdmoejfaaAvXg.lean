/-
  SYMBOLIC RUNS over the model (own framework, part 20): operations that make blocks; guards; regions in the text's order.
-/
import Derived.Test.YtljgkjkdmoejfaaAvXq
set_option linter.unusedVariables false
set_option linter.unusedSimpArgs false
namespace Go.Proofs.YtljgkjkdmoejfaaAv
open Go Go.RowKit

theorem Rel.put {F : Fr} {ρ : Rho} {S : XS} {t : TM} {L : GH} (h : Rel F ρ S t L) (d : Option Nat) {v : XV} {b : AV} (hv : RV ρ v b) : Rel F ρ (S.put d v) (t.putO d b) L := by
  cases d with
  | none => exact h
  | some d =>
    refine ⟨fun i => ?_, h.rw, h.inj, h.nx, h.fr, h.pin, h.gh⟩
    simp only [XS.put, TM.putO, TM.put]
    rw [look_put]
    split
    · exact hv
    · exact h.sl i

theorem RR.some_g {ρ : Rho} {L : GH} {id g : Nat} {r : XRow} (h : RR ρ L id r) (hg : ρ id = some (some g)) : ∃ row, L g = some row ∧ RRow ρ r row := by
  rcases h with ⟨g', row, h1, h2, h3⟩ | ⟨h1, _⟩
  · rw [hg] at h1
    obtain rfl := Option.some.inj (Option.some.inj h1)
    exact ⟨row, h2, h3⟩
  · rw [hg] at h1; cases h1

theorem Rel.wr {F : Fr} {ρ : Rho} {S : XS} {t : TM} {L : GH} (h : Rel F ρ S t L) {id g : Nat} {r : XRow} {row : Row} (hid : (findR S.h id).isSome = true) (hg : ρ id = some (some g)) (hr : RRow ρ r row) (h1 : ∀ e ap cs, findR S.h id = some (.one e ap cs) → ∃ e' ap' cs', r = .one e' ap' cs') : Rel F ρ (S.wr (some (id, r))) t (upd L g row) := by
  have hdom : ∀ i, (findR ((id, r) :: delR S.h id) i).isSome = (findR S.h i).isSome := by
    intro i
    rw [findR_put, findR_del]
    by_cases hi : i = id
    · rw [if_pos hi, hi, hid]; rfl
    · rw [if_neg hi, if_neg hi]
  refine ⟨h.sl, fun i q hq => ?_, fun i j g' hi hj => ?_, h.nx, fun b q hb => ?_, fun hp => ?_, h.gh⟩
  · simp only [XS.wr] at hq
    rw [findR_put, findR_del] at hq
    by_cases hi : i = id
    · rw [if_pos hi] at hq
      obtain rfl := Option.some.inj hq
      subst hi
      exact .inl ⟨g, row, hg, upd_same _ _ _, hr⟩
    · rw [if_neg hi, if_neg hi] at hq
      rcases h.rw i q hq with ⟨g', row', h1, h2, h3⟩ | h1
      · refine .inl ⟨g', row', h1, ?_, h3⟩
        rw [upd_ne]
        · exact h2
        · rintro rfl
          exact hi (h.inj i id _ (by rw [hq]; rfl) hid h1 hg)
      · exact .inr h1
  · simp only [XS.wr] at hi hj
    rw [hdom] at hi hj
    exact h.inj i j g' hi hj
  · obtain ⟨h1, h2⟩ := h.fr b q hb
    refine ⟨?_, fun i hi => ?_⟩
    · rw [upd_ne]
      · exact h1
      · rintro rfl
        exact h2 id hid hg
    · simp only [XS.wr] at hi
      rw [hdom] at hi
      exact h2 i hi
  · obtain ⟨p1, p2, e, ap, cs, p3⟩ := h.pin hp
    refine ⟨p1, p2, ?_⟩
    simp only [XS.wr]
    rw [findR_put, findR_del]
    by_cases h0 : 0 = id
    · rw [if_pos h0]
      subst h0
      obtain ⟨e', ap', cs', rfl⟩ := h1 e ap cs p3
      exact ⟨e', ap', cs', rfl⟩
    · rw [if_neg h0, if_neg h0]
      exact ⟨e, ap, cs, p3⟩

/-! A block's number that is told anew -/
def Rho.set (ρ : Rho) (id : Nat) (o : Option Nat) : Rho := fun i => if i = id then some o else ρ i
mutual
theorem RV.set {ρ : Rho} {id : Nat} {o : Option Nat} : ∀ (x : XV) (b : AV), x.has id = false → RV ρ x b → RV (ρ.set id o) x b
  | .v a, b, _, k => by simpa [RV] using k
  | .sl i sz off n, b, hh, k => by
    simp only [XV.has, beqN, decide_eq_false_iff_not] at hh
    simp only [RV] at k ⊢
    have e : (ρ.set id o) i = ρ i := by unfold Rho.set; rw [if_neg hh]
    rw [e]; exact k
  | .ptr i sz j q, b, hh, k => by
    simp only [XV.has, beqN, decide_eq_false_iff_not] at hh
    simp only [RV] at k ⊢
    have e : (ρ.set id o) i = ρ i := by unfold Rho.set; rw [if_neg hh]
    rw [e]; exact k
  | .fz n sz f, b, _, k => by simpa [RV] using k
  | .fzc n sz f, b, _, k => by simpa [RV] using k
  | .fp cs, b, _, k => by simpa [RV] using k
  | .fsel cs j, b, _, k => by simpa [RV] using k
  | .agg cs, b, hh, k => by
    simp only [XV.has] at hh
    simp only [RV] at k ⊢
    obtain ⟨bs, hb, hr⟩ := k
    exact ⟨bs, hb, RVL.set cs bs hh hr⟩
  | .tup cs, b, hh, k => by
    simp only [XV.has] at hh
    simp only [RV] at k ⊢
    obtain ⟨bs, hb, hr⟩ := k
    exact ⟨bs, hb, RVL.set cs bs hh hr⟩
  | .gd c key x, b, hh, k => by
    simp only [XV.has] at hh
    simp only [RV] at k ⊢
    exact ⟨fun hc => RV.set x b hh (k.1 hc), k.2⟩
  | .top, b, _, _ => by simp [RV]
theorem RVL.set {ρ : Rho} {id : Nat} {o : Option Nat} : ∀ (cs : List XV) (bs : List AV), XV.has.hasL id cs = false → RVL ρ cs bs → RVL (ρ.set id o) cs bs
  | [], [], _, _ => by simp [RVL]
  | c :: cs, b :: bs, hh, k => by
    simp only [XV.has.hasL, Bool.or_eq_false_iff] at hh
    simp only [RVL] at k ⊢
    exact ⟨RV.set c b hh.1 k.1, RVL.set cs bs hh.2 k.2⟩
  | [], _ :: _, _, k => by simp [RVL] at k
  | _ :: _, [], _, k => by simp [RVL] at k
end
theorem look_drop (id : Nat) : ∀ (s : List (Nat × XV)) (i : Nat), look (dropS id s) i = bif (look s i).has id then .top else look s i
  | [], i => by simp [dropS, look, XV.has]
  | (d, v) :: s, i => by
    simp only [dropS]
    cases hv : v.has id with
    | true =>
      rw [cond_true, look_put, look_put, look_drop id s i]
      split
      · rw [hv]; rfl
      · rfl
    | false =>
      rw [cond_false, look_put, look_put, look_drop id s i]
      split
      · rw [hv]; rfl
      · rfl
theorem RV.drop {ρ : Rho} {id : Nat} {o : Option Nat} {x : XV} {b : AV} (k : RV ρ x b) : RV (ρ.set id o) (bif x.has id then .top else x) b := by
  cases h : x.has id with
  | true => simp [RV]
  | false => exact RV.set x b h k
theorem dropC_ok {ρ : Rho} {id : Nat} {o : Option Nat} : ∀ {cs : List XV} {bs : List AV}, RVL ρ cs bs → RVL (ρ.set id o) (dropC id cs) bs
  | [], [], _ => by simp [dropC, RVL]
  | c :: cs, b :: bs, k => by
    simp only [RVL] at k
    simp only [dropC, RVL]
    exact ⟨RV.drop k.1, dropC_ok k.2⟩
  | [], _ :: _, k => by simp [RVL] at k
  | _ :: _, [], k => by simp [RVL] at k
def dropRow (id : Nat) : XRow → XRow
  | .one e ap cs => .one e ap (dropC id cs)
  | .vec e ap n sz f => .vec e ap n sz f
  | .vecU e ap n sz i cs f => .vecU e ap n sz i cs f
theorem findR_drop (id : Nat) : ∀ (s : List (Nat × XRow)) (i : Nat), findR (dropH id s) i = (findR s i).map (dropRow id)
  | [], i => by simp [dropH, findR]
  | (d, .one e ap cs) :: s, i => by
    simp only [dropH]
    rw [findR_put, findR_put, findR_drop id s i]
    split <;> rfl
  | (d, .vec e ap n sz f) :: s, i => by
    simp only [dropH]
    rw [findR_put, findR_put, findR_drop id s i]
    split <;> rfl
  | (d, .vecU e ap n sz k cs f) :: s, i => by
    simp only [dropH]
    rw [findR_put, findR_put, findR_drop id s i]
    split <;> rfl
theorem RRow.drop {ρ : Rho} {id : Nat} {o : Option Nat} {r : XRow} {row : Row} (k : RRow ρ r row) : RRow (ρ.set id o) (dropRow id r) row := by
  cases r with
  | one e ap cs => simp only [RRow, dropRow] at k ⊢; exact ⟨k.1, k.2.1, dropC_ok k.2.2⟩
  | vec e ap n sz f => simpa [RRow, dropRow] using k
  | vecU e ap n sz i cs f => simpa [RRow, dropRow] using k

theorem set_mono {ρ : Rho} {id : Nat} {o : Option Nat} (h : ρ id = none) : ∀ i q, ρ i = some q → (ρ.set id o) i = some q := by
  intro i q hq
  unfold Rho.set
  rw [if_neg]
  · exact hq
  · rintro rfl; rw [h] at hq; cases hq
theorem set_same (ρ : Rho) (id : Nat) (o : Option Nat) : (ρ.set id o) id = some o := by simp [Rho.set]
theorem set_ne (ρ : Rho) {id i : Nat} (o : Option Nat) (h : i ≠ id) : (ρ.set id o) i = ρ i := by simp [Rho.set, h]

theorem pin_new {ρ ρ' : Rho} {h : List (Nat × XRow)} {n g : Nat} {r : XRow} (hm : ∀ i q, ρ i = some q → ρ' i = some q) (hp : ρ 0 = some (some g) ∧ 0 < n ∧ ∃ e ap cs, findR h 0 = some (.one e ap cs)) :
    ρ' 0 = some (some g) ∧ 0 < n + 1 ∧ ∃ e ap cs, findR ((n, r) :: h) 0 = some (.one e ap cs) := by
  obtain ⟨p1, p2, e, ap, cs, p3⟩ := hp
  refine ⟨hm _ _ p1, by omega, e, ap, cs, ?_⟩
  rw [findR_put, if_neg (by omega)]
  exact p3

/-- A new block. -/
theorem Rel.new {F : Fr} {ρ : Rho} {S : XS} {t : TM} {L : GH} (h : Rel F ρ S t L) {g : Nat} {r : XRow} {row : Row} (hg : L g = none) (hr : RRow (ρ.set S.nx (some g)) r row) :
    Rel F (ρ.set S.nx (some g)) { S with h := (S.nx, r) :: S.h, nx := S.nx + 1 } t (upd L g row) := by
  have hnx := h.nx S.nx (Nat.le_refl _)
  have hm := set_mono (o := some g) hnx
  have fresh : ∀ i, (findR S.h i).isSome = true → i ≠ S.nx ∧ ρ i ≠ some (some g) := by
    intro i hi
    cases hq : findR S.h i with
    | none => rw [hq] at hi; cases hi
    | some q =>
      rcases h.rw i q hq with ⟨g', row', h1, h2, _⟩ | ⟨h1, _⟩
      · refine ⟨by (rintro rfl; rw [hnx] at h1; cases h1), ?_⟩
        intro h3
        rw [h1] at h3
        obtain rfl := Option.some.inj (Option.some.inj h3)
        rw [hg] at h2; cases h2
      · exact ⟨by (rintro rfl; rw [hnx] at h1; cases h1), by rw [h1]; simp⟩
  refine ⟨fun i => RV.mono hm _ _ (h.sl i), fun i q hq => ?_, fun i j g' hi hj e1 e2 => ?_, fun i hi => ?_, fun b q hb => ?_, fun hp => pin_new hm (h.pin hp), RVL.mono hm _ _ h.gh⟩
  · simp only at hq
    rw [findR_put] at hq
    by_cases hi : i = S.nx
    · rw [if_pos hi] at hq
      obtain rfl := Option.some.inj hq
      subst hi
      exact .inl ⟨g, row, set_same _ _ _, upd_same _ _ _, hr⟩
    · rw [if_neg hi] at hq
      rcases h.rw i q hq with ⟨g', row', h1, h2, h3⟩ | ⟨h1, h2⟩
      · refine .inl ⟨g', row', hm _ _ h1, ?_, h3.mono hm⟩
        rw [upd_ne]
        · exact h2
        · rintro rfl; rw [hg] at h2; cases h2
      · exact .inr ⟨hm _ _ h1, h2⟩
  · simp only at hi hj
    rw [findR_put] at hi hj
    by_cases a1 : i = S.nx
    · by_cases a2 : j = S.nx
      · rw [a1, a2]
      · rw [if_neg a2] at hj
        rw [a1, set_same] at e1
        obtain rfl := Option.some.inj (Option.some.inj e1)
        rw [set_ne _ _ a2] at e2
        exact absurd e2 (fresh j hj).2
    · rw [if_neg a1] at hi
      rw [set_ne _ _ a1] at e1
      by_cases a2 : j = S.nx
      · rw [a2, set_same] at e2
        obtain rfl := Option.some.inj (Option.some.inj e2)
        exact absurd e1 (fresh i hi).2
      · rw [if_neg a2] at hj
        rw [set_ne _ _ a2] at e2
        exact h.inj i j g' hi hj e1 e2
  · simp only at hi
    rw [set_ne _ _ (by omega)]
    exact h.nx i (by omega)
  · obtain ⟨h1, h2⟩ := h.fr b q hb
    refine ⟨?_, fun i hi => ?_⟩
    · rw [upd_ne]
      · exact h1
      · rintro rfl; rw [hg] at h1; cases h1
    · simp only at hi
      rw [findR_put] at hi
      by_cases a1 : i = S.nx
      · rw [a1, set_same]
        intro h3
        obtain rfl := Option.some.inj (Option.some.inj h3)
        rw [hg] at h1; cases h1
      · rw [if_neg a1] at hi
        rw [set_ne _ _ a1]
        exact h2 i hi

/-- A block that is told anew: all that spoke of it is forgotten. -/
theorem Rel.renew {F : Fr} {ρ : Rho} {S : XS} {t : TM} {L0 : GH} {og og' : Option Nat} {id : Nat} {r0 : Row} {q0 r : XRow} {row : Row} (h : Rel F ρ S t (updo L0 og r0)) (hF : Fre L0 og) (hq : findR S.h id = some q0) (hid : ρ id = some og) (hF' : Fre L0 og') (hvec : ∀ e ap cs, q0 ≠ .one e ap cs)
    (hr : (∃ g, og' = some g ∧ RRow (ρ.set id og') r row) ∨ (og' = none ∧ ∃ e sz f, r = .vec e true 0 sz f)) :
    Rel F (ρ.set id og') { S with s := dropS id S.s, h := (id, r) :: dropH id (delR S.h id), gs := dropC id S.gs } t (updo L0 og' row) := by
  have hlt : id < S.nx := by
    rcases Nat.lt_or_ge id S.nx with hl | hl
    · exact hl
    · rw [h.nx id hl] at hid; cases hid
  have old : ∀ i g row', i ≠ id → (findR S.h i).isSome = true → ρ i = some (some g) → updo L0 og r0 g = some row' → L0 g = some row' := by
    intro i g row' hi hs e1 e2
    cases og with
    | none => exact e2
    | some g0 =>
      have hne : g ≠ g0 := by
        rintro rfl
        exact hi (h.inj i id _ hs (by rw [hq]; rfl) e1 hid)
      simpa [updo, upd_ne _ _ _ _ hne] using e2
  have new : ∀ g row', L0 g = some row' → updo L0 og' row g = some row' := by
    intro g row' e
    cases og' with
    | none => exact e
    | some g1 =>
      have hne : g ≠ g1 := by rintro rfl; rw [hF' g rfl] at e; cases e
      simpa [updo, upd_ne _ _ _ _ hne] using e
  have fi : ∀ i, findR ((id, r) :: dropH id (delR S.h id)) i = if i = id then some r else (findR S.h i).map (dropRow id) := by
    intro i
    rw [findR_put, findR_drop, findR_del]
    by_cases hi : i = id
    · rw [if_pos hi, if_pos hi]
    · rw [if_neg hi, if_neg hi, if_neg hi]
  have gone : ∀ i g, i ≠ id → (findR S.h i).isSome = true → ρ i = some (some g) → ∃ row', L0 g = some row' := by
    intro i g hi hs e1
    cases hq' : findR S.h i with
    | none => rw [hq'] at hs; cases hs
    | some q =>
      obtain ⟨row', h2, _⟩ := (h.rw i q hq').some_g e1
      exact ⟨row', old i g row' hi hs e1 h2⟩
  refine ⟨fun i => by show RV _ (look (dropS id S.s) i) _; rw [look_drop]; exact RV.drop (h.sl i), fun i q hq' => ?_, fun i j g' hi hj e1 e2 => ?_, fun i hi => ?_, fun b q hb => ?_, fun hp => ?_, dropC_ok h.gh⟩
  · simp only at hq'
    rw [fi] at hq'
    by_cases hi : i = id
    · rw [if_pos hi] at hq'
      obtain rfl := Option.some.inj hq'
      subst hi
      rcases hr with ⟨g, rfl, hr⟩ | ⟨rfl, hr⟩
      · exact .inl ⟨g, row, set_same _ _ _, upd_same _ _ _, hr⟩
      · exact .inr ⟨set_same _ _ _, hr⟩
    · rw [if_neg hi] at hq'
      cases hq2 : findR S.h i with
      | none => rw [hq2] at hq'; cases hq'
      | some p =>
        rw [hq2] at hq'
        obtain rfl := Option.some.inj hq'
        rcases h.rw i p hq2 with ⟨g', row', h1, h2, h3⟩ | ⟨h1, e, sz, f, rfl⟩
        · exact .inl ⟨g', row', by rw [set_ne _ _ hi]; exact h1, new _ _ (old i g' row' hi (by rw [hq2]; rfl) h1 h2), h3.drop⟩
        · exact .inr ⟨by rw [set_ne _ _ hi]; exact h1, e, sz, f, rfl⟩
  · simp only at hi hj
    rw [fi] at hi hj
    have ss : ∀ k, k ≠ id → ((if k = id then some r else (findR S.h k).map (dropRow id)) : Option XRow).isSome = true → (findR S.h k).isSome = true := by
      intro k hk hs
      rw [if_neg hk] at hs
      simpa using hs
    by_cases a1 : i = id
    · by_cases a2 : j = id
      · rw [a1, a2]
      · rw [a1, set_same] at e1
        rw [set_ne _ _ a2] at e2
        obtain ⟨row', h3⟩ := gone j g' a2 (ss j a2 hj) e2
        obtain rfl := Option.some.inj e1
        rw [hF' g' rfl] at h3; cases h3
    · by_cases a2 : j = id
      · rw [a2, set_same] at e2
        rw [set_ne _ _ a1] at e1
        obtain ⟨row', h3⟩ := gone i g' a1 (ss i a1 hi) e1
        obtain rfl := Option.some.inj e2
        rw [hF' g' rfl] at h3; cases h3
      · rw [set_ne _ _ a1] at e1
        rw [set_ne _ _ a2] at e2
        exact h.inj i j g' (ss i a1 hi) (ss j a2 hj) e1 e2
  · simp only at hi
    rw [set_ne _ _ (by omega)]
    exact h.nx i hi
  · obtain ⟨h1, h2⟩ := h.fr b q hb
    have h3 : L0 b = some q := by
      cases og with
      | none => exact h1
      | some g0 =>
        have hne : b ≠ g0 := by rintro rfl; exact h2 id (by rw [hq]; rfl) hid
        simpa [updo, upd_ne _ _ _ _ hne] using h1
    refine ⟨new _ _ h3, fun i hi => ?_⟩
    simp only at hi
    rw [fi] at hi
    by_cases a1 : i = id
    · rw [a1, set_same]
      intro h4
      obtain rfl := Option.some.inj h4
      rw [hF' b rfl] at h3; cases h3
    · rw [if_neg a1] at hi
      rw [set_ne _ _ a1]
      exact h2 i (by simpa using hi)
  · obtain ⟨p1, p2, e, ap, cs, p3⟩ := h.pin hp
    have hne : 0 ≠ id := by
      rintro rfl
      rw [hq] at p3
      exact hvec e ap cs (Option.some.inj p3)
    refine ⟨by rw [set_ne _ _ hne]; exact p1, p2, e, ap, dropC id cs, ?_⟩
    show findR ((id, r) :: dropH id (delR S.h id)) 0 = _
    rw [fi, if_neg hne, p3]
    rfl
end Go.Proofs.YtljgkjkdmoejfaaAv
