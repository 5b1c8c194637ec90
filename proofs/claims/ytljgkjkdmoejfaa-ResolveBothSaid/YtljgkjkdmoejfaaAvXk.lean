/-
  SYMBOLIC RUNS over the model (own framework, part 24): pieces of code.
-/
import Derived.Test.YtljgkjkdmoejfaaAvXj
set_option linter.unusedVariables false
set_option linter.unusedSimpArgs false
namespace Go.Proofs.YtljgkjkdmoejfaaAv
open Go Go.RowKit

theorem VM_eq {x y : XV} (h : VM x y) : x = y := by
  unfold VM at h
  split at h
  · split at h
    · rename_i hk; rw [kb_eq hk, h]
    · exact h.elim
  · rw [h]
  · rw [h]
  · exact h
theorem VML_eq : ∀ {l k : List XV}, VML l k → l = k
  | [], [], _ => rfl
  | x :: l, y :: k, h => by
    simp only [VML] at h
    rw [VM_eq h.1, VML_eq h.2]
  | [], _ :: _, h => by simp [VML] at h
  | _ :: _, [], h => by simp [VML] at h

def Rho.below (ρ : Rho) (n : Nat) : Rho := fun i => if i < n then ρ i else none
mutual
theorem RV.below {ρ : Rho} {n : Nat} : ∀ (x : XV) (b : AV), x.lt n = true → RV ρ x b → RV (ρ.below n) x b
  | .v a, b, _, k => by simpa [RV] using k
  | .sl i sz off m, b, hh, k => by
    simp only [XV.lt, bltN, decide_eq_true_eq] at hh
    simp only [RV] at k ⊢
    have e : (ρ.below n) i = ρ i := by unfold Rho.below; rw [if_pos hh]
    rw [e]; exact k
  | .ptr i sz j q, b, hh, k => by
    simp only [XV.lt, bltN, decide_eq_true_eq] at hh
    simp only [RV] at k ⊢
    have e : (ρ.below n) i = ρ i := by unfold Rho.below; rw [if_pos hh]
    rw [e]; exact k
  | .fz m sz f, b, _, k => by simpa [RV] using k
  | .fzc m sz f, b, _, k => by simpa [RV] using k
  | .fp cs, b, _, k => by simpa [RV] using k
  | .fsel cs j, b, _, k => by simpa [RV] using k
  | .agg cs, b, hh, k => by
    simp only [XV.lt] at hh
    simp only [RV] at k ⊢
    obtain ⟨bs, hb, hr⟩ := k
    exact ⟨bs, hb, RVL.below cs bs hh hr⟩
  | .tup cs, b, hh, k => by
    simp only [XV.lt] at hh
    simp only [RV] at k ⊢
    obtain ⟨bs, hb, hr⟩ := k
    exact ⟨bs, hb, RVL.below cs bs hh hr⟩
  | .gd c key x, b, hh, k => by
    simp only [XV.lt] at hh
    simp only [RV] at k ⊢
    exact ⟨fun hc => RV.below x b hh (k.1 hc), k.2⟩
  | .top, b, _, _ => by simp [RV]
theorem RVL.below {ρ : Rho} {n : Nat} : ∀ (cs : List XV) (bs : List AV), ltL n cs = true → RVL ρ cs bs → RVL (ρ.below n) cs bs
  | [], [], _, _ => by simp [RVL]
  | c :: cs, b :: bs, hh, k => by
    simp only [ltL, Bool.and_eq_true] at hh
    simp only [RVL] at k ⊢
    exact ⟨RV.below c b hh.1 k.1, RVL.below cs bs hh.2 k.2⟩
  | [], _ :: _, _, k => by simp [RVL] at k
  | _ :: _, [], _, k => by simp [RVL] at k
end

theorem SMs_ok {S : XS} {n : Nat} : ∀ {l : List (Nat × XV)} {K : Prop}, SMs S l K → ltS n l = true → K ∧ ∀ i, look l i = .top ∨ (look S.s i = look l i ∧ (look l i).lt n = true)
  | [], K, h, _ => ⟨h, fun i => .inl rfl⟩
  | (d, v) :: l, K, h, hl => by
    obtain ⟨h1, h2⟩ := h
    simp only [ltS, Bool.and_eq_true] at hl
    obtain ⟨h3, h4⟩ := SMs_ok h2 hl.2
    refine ⟨h3, fun i => ?_⟩
    rw [look_put]
    by_cases hi : i = d
    · rw [if_pos hi, hi]; exact .inr ⟨VM_eq h1, hl.1⟩
    · rw [if_neg hi]; exact h4 i
def ltRow (n : Nat) : XRow → Bool
  | .one _ _ cs => ltL n cs
  | .vec .. => true
  | .vecU .. => true
theorem SMh_ok {S : XS} {n : Nat} : ∀ {l : List (Nat × XRow)} {K : Prop}, SMh S l K → ltH n l = true → ∀ i r, findR l i = some r → i < n ∧ ltRow n r = true ∧ ∃ r', findR S.h i = some r' ∧ RM r' r
  | [], K, h, _, i, r, hf => by simp [findR] at hf
  | (d, q) :: l, K, h, hl, i, r, hf => by
    obtain ⟨h1, h2⟩ := h
    rw [findR_put] at hf
    have hl2 : d < n ∧ ltRow n q = true ∧ ltH n l = true := by
      cases q with
      | one e ap cs => simp only [ltH, Bool.and_eq_true, bltN, decide_eq_true_eq] at hl; exact ⟨hl.1, hl.2.1, hl.2.2⟩
      | vec e ap m sz f => simp only [ltH, Bool.and_eq_true, bltN, decide_eq_true_eq] at hl; exact ⟨hl.1, rfl, hl.2⟩
      | vecU e ap m sz i cs f => simp only [ltH, Bool.and_eq_true, bltN, decide_eq_true_eq] at hl; exact ⟨hl.1, rfl, hl.2⟩
    by_cases hi : i = d
    · rw [if_pos hi] at hf
      obtain rfl := Option.some.inj hf
      subst hi
      refine ⟨hl2.1, hl2.2.1, ?_⟩
      split at h1
      · rename_i r' hr'; exact ⟨r', hr', h1⟩
      · exact h1.elim
    · rw [if_neg hi] at hf
      exact SMh_ok h2 hl2.2.2 i r hf

theorem RM_row {ρ : Rho} {n : Nat} {r' r : XRow} {row : Row} (h : RM r' r) (hl : ltRow n r = true) (k : RRow ρ r' row) : RRow (ρ.below n) r row := by
  unfold RM at h
  split at h
  · obtain ⟨⟨rfl, rfl⟩, h⟩ := h
    simp only [RRow] at k ⊢
    rw [VML_eq h] at k
    exact ⟨k.1, k.2.1, RVL.below _ _ hl k.2.2⟩
  · obtain ⟨⟨rfl, rfl, rfl⟩, rfl, h⟩ := h
    simp only [RRow] at k ⊢
    rw [k]
    congr 1
    exact vecOf_congr fun j hj => by rw [h j hj]
  · obtain ⟨⟨rfl, rfl, rfl⟩, rfl, h⟩ := h
    simp only [RRow] at k ⊢
    rw [k]
    congr 1
    exact vecOf_congr fun j hj => by rw [h j hj]
  · exact h.elim

theorem SMh_K {S : XS} : ∀ {l : List (Nat × XRow)} {K : Prop}, SMh S l K → K
  | [], K, h => h
  | (d, q) :: l, K, h => SMh_K h.2

section
variable {P : Program} {N : Nat} {ρ : Rho} {F : Fr} {S S' : XS} {t : TM} {L : GH}

/-- A state that is told anew. -/
theorem SM_ok {T : XS} (h : SM S T) (hR : Rel F ρ S t L) : Rel F (ρ.below T.nx) T t L := by
  obtain ⟨hs, h⟩ := h
  simp only [scopeB, Bool.and_eq_true] at hs
  obtain ⟨hh, hsl⟩ := SMs_ok h hs.1
  have hrw := SMh_ok hh hs.2.1
  have dom : ∀ i, (findR T.h i).isSome = true → i < T.nx ∧ (findR S.h i).isSome = true := by
    intro i hi
    cases hf : findR T.h i with
    | none => rw [hf] at hi; cases hi
    | some r =>
      obtain ⟨h1, _, r', h2, _⟩ := hrw i r hf
      exact ⟨h1, by rw [h2]; rfl⟩
  have hgs : RVL (ρ.below T.nx) T.gs F.tg := by
    have hv : S.gs = T.gs := by
      have := SMh_K hh
      unfold SMg at this
      split at this
      · rename_i e1 e2; rw [e1, e2]
      · exact VML_eq this.1
    rw [← hv] at hs ⊢
    exact RVL.below _ _ hs.2.2.2.2.2 hR.gh
  refine ⟨fun i => ?_, fun i r hf => ?_, fun i j g hi hj e1 e2 => ?_, fun i hi => ?_, fun b r hb => ?_, fun hp => ?_, hgs⟩
  · rcases hsl i with h1 | ⟨h1, h2⟩
    · rw [h1]; simp [RV]
    · rw [← h1] at h2 ⊢
      exact RV.below _ _ h2 (hR.sl i)
  · obtain ⟨h1, h2, r', h3, h4⟩ := hrw i r hf
    have hb : (ρ.below T.nx) i = ρ i := by unfold Rho.below; rw [if_pos h1]
    rcases hR.rw i r' h3 with ⟨g, row, k1, k2, k3⟩ | ⟨k1, e, sz, f, rfl⟩
    · exact .inl ⟨g, row, by rw [hb]; exact k1, k2, RM_row h4 h2 k3⟩
    · refine .inr ⟨by rw [hb]; exact k1, ?_⟩
      unfold RM at h4
      split at h4
      · rename_i heq; cases heq
      · rename_i heq
        injection heq with q1 q2 q3 q4 q5
        subst q1 q2 q3 q4 q5
        obtain ⟨⟨rfl, rfl, rfl⟩, rfl, _⟩ := h4
        exact ⟨_, _, _, rfl⟩
      · rename_i heq; cases heq
      · exact h4.elim
  · obtain ⟨a1, a2⟩ := dom i hi
    obtain ⟨b1, b2⟩ := dom j hj
    unfold Rho.below at e1 e2
    rw [if_pos a1] at e1
    rw [if_pos b1] at e2
    exact hR.inj i j g a2 b2 e1 e2
  · unfold Rho.below
    rw [if_neg (by omega)]
  · obtain ⟨h1, h2⟩ := hR.fr b r hb
    refine ⟨h1, fun i hi => ?_⟩
    obtain ⟨a1, a2⟩ := dom i hi
    unfold Rho.below
    rw [if_pos a1]
    exact h2 i a2
  · obtain ⟨-, -, -, hpb, hpe, -⟩ := hs
    have hSp : S.pn = true := by
      unfold eqB at hpe
      split at hpe
      · rename_i h1 h2; exact h1
      · rename_i h1 h2; rw [hp] at h2; cases h2
      · cases hpe
    obtain ⟨p1, p2, p3⟩ := hR.pin hSp
    unfold pinB at hpb
    rw [hp] at hpb
    simp only at hpb
    split at hpb
    · rename_i e ap cs hf
      rw [bltN, decide_eq_true_eq] at hpb
      refine ⟨?_, hpb, e, ap, cs, hf⟩
      unfold Rho.below
      rw [if_pos hpb]
      exact p1
    · cases hpb

/-- A slot that holds a nil slice, told as a slice of one's own. -/
theorem xown_ok {d sz : Nat} {e : TypeId} (h : xown S d e sz = some S') (hR : Rel F ρ S t L) : ∃ ρ', Rel F ρ' S' t L := by
  unfold xown at h
  split at h
  · rename_i hl
    obtain rfl := Option.some.inj h
    have h1 := Rel.newN hR e sz fun _ => []
    have hs := hR.sl d
    rw [hl] at hs
    simp only [RV] at hs
    refine ⟨ρ.set S.nx none, ⟨fun i => ?_, h1.rw, h1.inj, h1.nx, h1.fr, h1.pin, h1.gh⟩⟩
    show RV _ (look ((d, .sl S.nx sz 0 0) :: S.s) i) _
    rw [look_put]
    split
    · rename_i hi
      subst hi
      simp only [RV]
      exact .inr ⟨set_same _ _ _, trivial, trivial, hs⟩
    · exact h1.sl i
  · cases h

theorem J.retell {P : Program} {N : Nat} {c : Code} {Q : Exit → TM → GH → Prop} {t t' : TM} {L L' : GH} (hd : ∀ b, L b = none → L' b = none)
    (hv : ∀ w, (∀ g r, L g = some r → RowR L w g r) → (∀ g r, L' g = some r → RowR L' w g r) ∧ ∀ i x, VS L w (t i) x → VS L' w (t' i) x) (h : J P N c Q t' L') : J P N c Q t L := by
  intro L0 w0 a w he hs
  have hx := Ext.drop w hd
  obtain ⟨h1, h2⟩ := hv w hs.rows
  exact h L0 w0 a w (he.trans hx) ⟨fun i => h2 i _ (hs.tm i), h1, hs.size, hs.df.1, hs.df.2.ext hx⟩

/-- A slice of one's own that is only read from now on. -/
theorem xfrz_ok {c : Code} {Q : Exit → TM → GH → Prop} {d : Nat} {cs : List Prop} (h : xfrz S d = some (cs, S')) (hc : ∀ p ∈ cs, p) (hR : Rel F ρ S t L) (K : ∀ ρ' t' L', Rel F ρ' S' t' L' → J P N c Q t' L') : J P N c Q t L := by
  unfold xfrz at h
  split at h
  · rename_i id sz n hl
    split at h
    · rename_i e n' sz' f hq
      split at h
      · rename_i hs
        rw [beqN, decide_eq_true_eq] at hs
        subst hs
        simp only [Option.some.injEq, Prod.mk.injEq] at h
        obtain ⟨rfl, rfl⟩ := h
        have hn : n = n' := all1 hc
        subst hn
        have hsl := hR.sl d
        rw [hl] at hsl
        simp only [RV] at hsl
        have hlt : ∀ o, ρ id = some o → id < S.nx := by
          intro o ho
          rcases Nat.lt_or_ge id S.nx with h | h
          · exact h
          · rw [hR.nx id h] at ho; cases ho
        have go : ∀ (L0 : GH) (og : Option Nat) (row : Row), L = updo L0 og row → row.cs = vecOf n sz (fun i => toAVL (f i)) → Fre L0 og → ρ id = some og → t d = hv og sz n → (og = none → row.cs = [] ∧ n = 0) → J P N c Q t L := by
          intro L0 og row hL hcs hF hid ht hnil
          subst hL
          refine J.freeze d hF ht hnil (by rw [hcs, vecOf_length]) ?_
          rw [hcs]
          -- what is left is told of no block that is this one
          have fi : ∀ i, findR (dropH id (delR S.h id)) i = if i = id then none else (findR S.h i).map (dropRow id) := by
            intro i
            rw [findR_drop, findR_del]
            by_cases hi : i = id
            · rw [if_pos hi, if_pos hi]; rfl
            · rw [if_neg hi, if_neg hi]
          have old : ∀ i g row', i ≠ id → (findR S.h i).isSome = true → ρ i = some (some g) → updo L0 og row g = some row' → L0 g = some row' := by
            intro i g row' hi hs e1 e2
            cases og with
            | none => exact e2
            | some g0 =>
              have hne : g ≠ g0 := by
                rintro rfl
                exact hi (hR.inj i id _ hs (by rw [hq]; rfl) e1 hid)
              simpa [updo, upd_ne _ _ _ _ hne] using e2
          refine K (ρ.set id none) _ _ ⟨fun i => ?_, fun i q hf => ?_, fun i j g hi hj e1 e2 => ?_, fun i hi => ?_, fun b q hb => ?_, fun hp => ?_, dropC_ok hR.gh⟩
          · show RV _ (look ((d, .fz n sz f) :: dropS id S.s) i) _
            rw [look_put]
            by_cases hi : i = d
            · rw [if_pos hi, hi, TM.put_same]
              simp only [RV, toAV]
            · rw [if_neg hi, TM.put_ne _ _ _ _ hi, look_drop]
              exact RV.drop (hR.sl i)
          · simp only at hf
            rw [fi] at hf
            by_cases hi : i = id
            · rw [if_pos hi] at hf; cases hf
            · rw [if_neg hi] at hf
              cases hf2 : findR S.h i with
              | none => rw [hf2] at hf; cases hf
              | some p =>
                rw [hf2] at hf
                obtain rfl := Option.some.inj hf
                rcases hR.rw i p hf2 with ⟨g', row', h1, h2, h3⟩ | ⟨h1, e, sz, f, rfl⟩
                · exact .inl ⟨g', row', by rw [set_ne _ _ hi]; exact h1, old i g' row' hi (by rw [hf2]; rfl) h1 h2, h3.drop⟩
                · exact .inr ⟨by rw [set_ne _ _ hi]; exact h1, e, sz, f, rfl⟩
          · simp only at hi hj
            rw [fi] at hi hj
            by_cases a1 : i = id
            · rw [if_pos a1] at hi; cases hi
            · by_cases a2 : j = id
              · rw [if_pos a2] at hj; cases hj
              · rw [if_neg a1] at hi
                rw [if_neg a2] at hj
                rw [set_ne _ _ a1] at e1
                rw [set_ne _ _ a2] at e2
                exact hR.inj i j g (by simpa using hi) (by simpa using hj) e1 e2
          · simp only at hi
            have := hlt og hid
            rw [set_ne _ _ (by omega)]
            exact hR.nx i hi
          · obtain ⟨h1, h2⟩ := hR.fr b q hb
            have h3 : L0 b = some q := by
              cases og with
              | none => exact h1
              | some g0 =>
                have hne : b ≠ g0 := by rintro rfl; exact h2 id (by rw [hq]; rfl) hid
                simpa [updo, upd_ne _ _ _ _ hne] using h1
            refine ⟨h3, fun i hi => ?_⟩
            simp only at hi
            rw [fi] at hi
            by_cases a1 : i = id
            · rw [if_pos a1] at hi; cases hi
            · rw [if_neg a1] at hi
              rw [set_ne _ _ a1]
              exact h2 i (by simpa using hi)
          · obtain ⟨p1, p2, e', ap', cs', p3⟩ := hR.pin hp
            have hne : 0 ≠ id := by
              rintro rfl
              rw [hq] at p3; cases p3
            refine ⟨by rw [set_ne _ _ hne]; exact p1, p2, e', ap', dropC id cs', ?_⟩
            show findR (dropH id (delR S.h id)) 0 = _
            rw [fi, if_neg hne, p3]
            rfl
        rcases hsl with ⟨g0, hid, ht⟩ | ⟨hid, hn0, -, ht⟩
        · obtain ⟨row, hL, hrow⟩ := (hR.rw id _ hq).some_g hid
          simp only [RRow] at hrow
          refine go (del L g0) (some g0) row ?_ (by rw [hrow]) (fun g' h => by obtain rfl := Option.some.inj h; simp [del]) hid (by rw [ht]; simp [hv]) (fun h => by cases h)
          funext b'
          simp only [updo, upd, del]
          split
          · rename_i hb'; rw [hb', hL]
          · rfl
        · exact go L none ⟨0, true, vecOf n sz fun i => toAVL (f i)⟩ rfl rfl (fun g' h => by cases h) hid (by rw [ht]; rfl) (fun _ => ⟨by rw [hn0]; simp [vecOf], hn0⟩)
      · cases h
    · cases h
  · rename_i hl
    simp only [Option.some.injEq, Prod.mk.injEq] at h
    obtain ⟨-, rfl⟩ := h
    have hsl := hR.sl d
    rw [hl] at hsl
    simp only [RV] at hsl
    refine J.retell (t' := t.putO (some d) (.fz 0 (vecOf 0 1 fun _ => toAVL [.v (.p (.string ⟨#[]⟩))]))) (L' := L) (fun b hb => hb) (fun w hw => ⟨hw, fun i x hx => ?_⟩) (K ρ _ L (Rel.put hR (some d) (by simp only [RV, toAV])))
    show VS L w ((t.put d (.fz 0 (vecOf 0 1 fun _ => toAVL [.v (.p (.string ⟨#[]⟩))]))) i) x
    unfold TM.put
    split
    · rename_i hi
      rw [hi, hsl] at hx
      simp only [VS] at hx ⊢
      subst hx
      exact ⟨none, 0, [], rfl, Nat.le_refl _, .inl rfl, by simp [vecOf, VSL]⟩
    · exact hx
  · simp only [Option.some.injEq, Prod.mk.injEq] at h
    obtain ⟨-, rfl⟩ := h
    exact K ρ t L hR
  · cases h

/-- A slice of one's own, in a cell of a variable, that is only read from now on. -/
theorem xfrzc_ok {c : Code} {Q : Exit → TM → GH → Prop} {d o : Nat} {cs : List Prop} (h : xfrzc S d o = some (cs, S')) (hc : ∀ p ∈ cs, p) (hR : Rel F ρ S t L) (K : ∀ ρ' t' L', Rel F ρ' S' t' L' → J P N c Q t' L') : J P N c Q t L := by
  unfold xfrzc at h
  split at h
  · rename_i v hl
    split at h
    · rename_i e ap cells hv
      split at h
      · rename_i id sz n hcell
        split at h
        · rename_i e2 n' sz' f hq
          split at h
          · rename_i hs
            rw [beqN, decide_eq_true_eq] at hs
            subst hs
            simp only [Option.some.injEq, Prod.mk.injEq] at h
            obtain ⟨rfl, rfl⟩ := h
            have hn : n = n' := all1 hc
            subst hn
            have hvid : v ≠ id := by rintro rfl; rw [hv] at hq; cases hq
            have hsl := hR.sl d
            rw [hl] at hsl
            simp only [RV] at hsl
            obtain ⟨gv, hgv, -⟩ := hsl
            obtain ⟨row, hL, he, hap, hcs⟩ := (hR.rw v _ hv).some_g hgv
            have hlen := hcs.length
            have ho : o < cells.length := by
              rcases Nat.lt_or_ge o cells.length with h | h
              · exact h
              · rw [xget_eq, List.getD_eq_getElem?_getD, List.getElem?_eq_none h] at hcell
                cases hcell
            obtain ⟨b, hb1, hb2⟩ := hcs.get o ho
            rw [← xget_eq, hcell] at hb2
            have hlt : ∀ q, ρ id = some q → id < S.nx := by
              intro q hq
              rcases Nat.lt_or_ge id S.nx with h | h
              · exact h
              · rw [hR.nx id h] at hq; cases hq
            have go : ∀ (L0 : GH) (og : Option Nat) (r : Row), L = updo L0 og r → r.cs = vecOf n sz (fun i => toAVL (f i)) → Fre L0 og → ρ id = some og → b = YtljgkjkdmoejfaaAv.hv og sz n → (og = none → r.cs = [] ∧ n = 0) → J P N c Q t L := by
              intro L0 og r hLL hrcs hF hid hb hnil
              subst hLL
              have hne0 : og ≠ some gv := by
                intro h
                rw [h] at hid
                exact hvid (hR.inj v id gv (by rw [hv]; rfl) (by rw [hq]; rfl) hgv hid)
              have hL0 : L0 gv = some row := by
                cases og with
                | none => exact hL
                | some g0 =>
                  have : gv ≠ g0 := by rintro rfl; exact hne0 rfl
                  simpa [updo, upd_ne _ _ _ _ this] using hL
              have hd0 : ∀ b, updo L0 og r b = none → L0 b = none := fun b hb => (updo_none hb).2
              have hd : ∀ b, updo L0 og r b = none → upd L0 gv ⟨row.e, row.ap, row.cs.take o ++ ([.fz n r.cs] ++ row.cs.drop (o + 1))⟩ b = none := by
                intro b hb
                have := hd0 b hb
                rw [upd_ne]
                · exact this
                · rintro rfl; rw [hL0] at this; cases this
              refine J.retell (t' := t) (L' := upd L0 gv ⟨row.e, row.ap, row.cs.take o ++ ([.fz n r.cs] ++ row.cs.drop (o + 1))⟩) hd (fun w hrows => ⟨fun g q hg => ?_, fun i x hx => VS.ext (Ext.drop w hd) _ _ hx⟩) ?_
              · by_cases hgg : g = gv
                · subst hgg
                  rw [upd_same] at hg
                  obtain rfl := Option.some.inj hg
                  obtain ⟨c', fr, vs, k1, k2, k3, k4, k5, k6, k7⟩ := hrows g row hL
                  have hll := k6.length
                  have hvo : ∃ x, vs[o]? = some x ∧ VS (updo L0 og r) w b x := by
                    obtain ⟨x, hx1, hx2⟩ := k6.get o b hb1
                    exact ⟨x, hx1, hx2⟩
                  obtain ⟨x, hx1, hx2⟩ := hvo
                  rw [hb] at hx2
                  have hfz := freeze_VS (sz := sz) hF hrows hnil (by rw [hrcs, vecOf_length]) hx2
                  have hol : o < vs.length := by rw [← hll, ← hlen]; exact ho
                  have hvs : vs = vs.take o ++ ([x] ++ vs.drop (o + 1)) := by
                    have : vs.drop o = x :: vs.drop (o + 1) := by
                      rw [List.drop_eq_getElem_cons hol]
                      rw [List.getElem?_eq_getElem hol] at hx1
                      rw [Option.some.inj hx1]
                    rw [List.singleton_append, ← this, List.take_append_drop]
                  have hx0 : VSL (upd L0 g ⟨row.e, row.ap, row.cs.take o ++ ([.fz n r.cs] ++ row.cs.drop (o + 1))⟩) w (row.cs.take o ++ ([.fz n r.cs] ++ row.cs.drop (o + 1))) vs := by
                    rw [hvs]
                    refine VSL.append (VSL.ext (Ext.drop w hd) _ _ (k6.take o)) (VSL.append ?_ (VSL.ext (Ext.drop w hd) _ _ (k6.drop (o + 1))))
                    simp only [VSL]
                    refine ⟨VS.ext (Ext.drop w fun b hb => ?_) _ _ hfz, trivial⟩
                    rw [upd_ne]
                    · exact hb
                    · rintro rfl; rw [hL0] at hb; cases hb
                  have hlen2 : (row.cs.take o ++ ([AV.fz n r.cs] ++ row.cs.drop (o + 1))).length = row.cs.length := by
                    have : o < row.cs.length := by omega
                    simp; omega
                  exact ⟨c', fr, vs, k1, k2, k3, by simp only; omega, by simp only; rw [hlen2]; exact k5, hx0, k7⟩
                · rw [upd_ne _ _ _ _ hgg] at hg
                  have hg2 : updo L0 og r g = some q := by
                    cases og with
                    | none => exact hg
                    | some g0 =>
                      have : g ≠ g0 := by rintro rfl; rw [hF g rfl] at hg; cases hg
                      simpa [updo, upd_ne _ _ _ _ this] using hg
                  exact (hrows g q hg2).ext (Ext.drop w hd) rfl
              · have fi : ∀ i, findR ((v, .one e ap (xsplice (dropC id cells) [.fz n sz f] o)) :: dropH id (delR (delR S.h v) id)) i = if i = v then some (.one e ap (xsplice (dropC id cells) [.fz n sz f] o)) else if i = id then none else (findR S.h i).map (dropRow id) := by
                  intro i
                  rw [findR_put, findR_drop, findR_del, findR_del]
                  by_cases hi : i = v
                  · rw [if_pos hi, if_pos hi]
                  · rw [if_neg hi, if_neg hi]
                    by_cases hj : i = id
                    · rw [if_pos hj, if_neg hi, if_pos hj]; rfl
                    · rw [if_neg hj, if_neg hi, if_neg hj]
                have old : ∀ i g row', i ≠ id → (findR S.h i).isSome = true → ρ i = some (some g) → updo L0 og r g = some row' → L0 g = some row' := by
                  intro i g row' hi hs e1 e2
                  cases og with
                  | none => exact e2
                  | some g0 =>
                    have hne : g ≠ g0 := by
                      rintro rfl
                      exact hi (hR.inj i id _ hs (by rw [hq]; rfl) e1 hid)
                    simpa [updo, upd_ne _ _ _ _ hne] using e2
                have ss : ∀ i, (findR ((v, .one e ap (xsplice (dropC id cells) [.fz n sz f] o)) :: dropH id (delR (delR S.h v) id)) i).isSome = true → i ≠ id ∧ (findR S.h i).isSome = true := by
                  intro i hi
                  rw [fi] at hi
                  by_cases a1 : i = v
                  · rw [a1]; exact ⟨hvid, by rw [hv]; rfl⟩
                  · rw [if_neg a1] at hi
                    by_cases a2 : i = id
                    · rw [if_pos a2] at hi; cases hi
                    · rw [if_neg a2] at hi
                      exact ⟨a2, by simpa using hi⟩
                refine K (ρ.set id none) _ _ ⟨fun i => ?_, fun i q hf => ?_, fun i j g hi hj e1 e2 => ?_, fun i hi => ?_, fun b q hb => ?_, fun hp => ?_, dropC_ok hR.gh⟩
                · show RV _ (look (dropS id S.s) i) _
                  rw [look_drop]
                  exact RV.drop (hR.sl i)
                · simp only at hf
                  rw [fi] at hf
                  by_cases hi : i = v
                  · rw [if_pos hi] at hf
                    obtain rfl := Option.some.inj hf
                    subst hi
                    refine .inl ⟨gv, _, by rw [set_ne _ _ hvid]; exact hgv, upd_same _ _ _, he, hap, ?_⟩
                    rw [xsplice_eq]
                    have hdc : RVL (ρ.set id none) (dropC id cells) row.cs := dropC_ok hcs
                    refine RVL.append (hdc.take o) (RVL.append ?_ (hdc.drop _))
                    simp only [RVL, RV, toAV, and_true]
                    rw [hrcs]
                  · rw [if_neg hi] at hf
                    by_cases hj : i = id
                    · rw [if_pos hj] at hf; cases hf
                    · rw [if_neg hj] at hf
                      cases hf2 : findR S.h i with
                      | none => rw [hf2] at hf; cases hf
                      | some p =>
                        rw [hf2] at hf
                        obtain rfl := Option.some.inj hf
                        rcases hR.rw i p hf2 with ⟨g', row', h1, h2, h3⟩ | ⟨h1, e, sz, f, rfl⟩
                        · refine .inl ⟨g', row', by rw [set_ne _ _ hj]; exact h1, ?_, h3.drop⟩
                          rw [upd_ne]
                          · exact old i g' row' hj (by rw [hf2]; rfl) h1 h2
                          · rintro rfl
                            exact hi (hR.inj i v _ (by rw [hf2]; rfl) (by rw [hv]; rfl) h1 hgv)
                        · exact .inr ⟨by rw [set_ne _ _ hj]; exact h1, e, sz, f, rfl⟩
                · obtain ⟨a1, a2⟩ := ss i hi
                  obtain ⟨b1, b2⟩ := ss j hj
                  rw [set_ne _ _ a1] at e1
                  rw [set_ne _ _ b1] at e2
                  exact hR.inj i j g a2 b2 e1 e2
                · have := hlt og hid
                  simp only at hi
                  rw [set_ne _ _ (by omega)]
                  exact hR.nx i hi
                · obtain ⟨h1, h2⟩ := hR.fr b q hb
                  have hbv : b ≠ gv := by rintro rfl; exact h2 v (by rw [hv]; rfl) hgv
                  have h3 : L0 b = some q := by
                    cases og with
                    | none => exact h1
                    | some g0 =>
                      have hne : b ≠ g0 := by rintro rfl; exact h2 id (by rw [hq]; rfl) hid
                      simpa [updo, upd_ne _ _ _ _ hne] using h1
                  refine ⟨by rw [upd_ne _ _ _ _ hbv]; exact h3, fun i hi => ?_⟩
                  obtain ⟨a1, a2⟩ := ss i hi
                  rw [set_ne _ _ a1]
                  exact h2 i a2
                · obtain ⟨p1, p2, e', ap', cs', p3⟩ := hR.pin hp
                  have hne : 0 ≠ id := by
                    rintro rfl
                    rw [hq] at p3; cases p3
                  refine ⟨by rw [set_ne _ _ hne]; exact p1, p2, ?_⟩
                  show ∃ e ap cs, findR _ 0 = _
                  rw [fi]
                  by_cases h0 : 0 = v
                  · rw [if_pos h0]; exact ⟨_, _, _, rfl⟩
                  · rw [if_neg h0, if_neg hne, p3]; exact ⟨_, _, _, rfl⟩
            simp only [RV] at hb2
            rcases hb2 with ⟨g0, hid, ht⟩ | ⟨hid, hn0, -, ht⟩
            · obtain ⟨row', hL', hrow⟩ := (hR.rw id _ hq).some_g hid
              simp only [RRow] at hrow
              refine go (del L g0) (some g0) row' ?_ (by rw [hrow]) (fun g' h => by obtain rfl := Option.some.inj h; simp [del]) hid (by rw [ht]; simp [YtljgkjkdmoejfaaAv.hv]) (fun h => by cases h)
              funext b'
              simp only [updo, upd, del]
              split
              · rename_i hb'; rw [hb', hL']
              · rfl
            · exact go L none ⟨0, true, vecOf n sz fun i => toAVL (f i)⟩ rfl rfl (fun g' h => by cases h) hid (by rw [ht]; rfl) (fun _ => ⟨by rw [hn0]; simp [vecOf], hn0⟩)
          · cases h
        · cases h
      · cases h
    · cases h
  · cases h

theorem pre0_ok {c : Code} {Q : Exit → TM → GH → Prop} : ∀ (sc : Sc) (S : XS) (cs : List Prop) (S' : XS) (sc' : Sc) (ρ : Rho) (t : TM) (L : GH), pre0 sc S = some (cs, S', sc') → (∀ p ∈ cs, p) → Rel F ρ S t L → (∀ ρ' t' L', Rel F ρ' S' t' L' → J P N c Q t' L') → J P N c Q t L
  | .own d e sz k, S, cs, S', sc', ρ, t, L, h, hc, hR, K => by
    simp only [pre0] at h
    split at h
    · rename_i S1 h1
      obtain ⟨ρ', hR'⟩ := xown_ok h1 hR
      exact pre0_ok k S1 cs S' sc' ρ' t L h hc hR' K
    · cases h
  | .frz d k, S, cs, S', sc', ρ, t, L, h, hc, hR, K => by
    simp only [pre0] at h
    split at h
    · rename_i cs1 S1 h1
      split at h
      · rename_i ds r h2
        simp only [Option.some.injEq, Prod.mk.injEq] at h
        obtain ⟨rfl, rfl⟩ := h
        exact xfrz_ok h1 (allL hc) hR fun ρ' t' L' hR' => pre0_ok k S1 ds S' sc' ρ' t' L' h2 (allR hc) hR' K
      · cases h
    · cases h
  | .frzc d o k, S, cs, S', sc', ρ, t, L, h, hc, hR, K => by
    simp only [pre0] at h
    split at h
    · rename_i cs1 S1 h1
      split at h
      · rename_i ds r h2
        simp only [Option.some.injEq, Prod.mk.injEq] at h
        obtain ⟨rfl, rfl⟩ := h
        exact xfrzc_ok h1 (allL hc) hR fun ρ' t' L' hR' => pre0_ok k S1 ds S' sc' ρ' t' L' h2 (allR hc) hR' K
      · cases h
    · cases h
  | .casb .., S, cs, S', sc', ρ, t, L, h, hc, hR, K => by simp only [pre0, Option.some.injEq, Prod.mk.injEq] at h; obtain ⟨-, rfl, -⟩ := h; exact K ρ t L hR
  | .fk _, S, cs, S', sc', ρ, t, L, h, hc, hR, K => by simp only [pre0, Option.some.injEq, Prod.mk.injEq] at h; obtain ⟨-, rfl, -⟩ := h; exact K ρ t L hR
  | .nil, S, cs, S', sc', ρ, t, L, h, hc, hR, K => by simp only [pre0, Option.some.injEq, Prod.mk.injEq] at h; obtain ⟨-, rfl, -⟩ := h; exact K ρ t L hR
  | .seq _ _, S, cs, S', sc', ρ, t, L, h, hc, hR, K => by simp only [pre0, Option.some.injEq, Prod.mk.injEq] at h; obtain ⟨-, rfl, -⟩ := h; exact K ρ t L hR
  | .cut _ _ _, S, cs, S', sc', ρ, t, L, h, hc, hR, K => by simp only [pre0, Option.some.injEq, Prod.mk.injEq] at h; obtain ⟨-, rfl, -⟩ := h; exact K ρ t L hR
  | .cond _ _, S, cs, S', sc', ρ, t, L, h, hc, hR, K => by simp only [pre0, Option.some.injEq, Prod.mk.injEq] at h; obtain ⟨-, rfl, -⟩ := h; exact K ρ t L hR
  | .T _, S, cs, S', sc', ρ, t, L, h, hc, hR, K => by simp only [pre0, Option.some.injEq, Prod.mk.injEq] at h; obtain ⟨-, rfl, -⟩ := h; exact K ρ t L hR
  | .F _, S, cs, S', sc', ρ, t, L, h, hc, hR, K => by simp only [pre0, Option.some.injEq, Prod.mk.injEq] at h; obtain ⟨-, rfl, -⟩ := h; exact K ρ t L hR
  | .blk _, S, cs, S', sc', ρ, t, L, h, hc, hR, K => by simp only [pre0, Option.some.injEq, Prod.mk.injEq] at h; obtain ⟨-, rfl, -⟩ := h; exact K ρ t L hR
  | .loop _ _, S, cs, S', sc', ρ, t, L, h, hc, hR, K => by simp only [pre0, Option.some.injEq, Prod.mk.injEq] at h; obtain ⟨-, rfl, -⟩ := h; exact K ρ t L hR
  | .roll _ _, S, cs, S', sc', ρ, t, L, h, hc, hR, K => by simp only [pre0, Option.some.injEq, Prod.mk.injEq] at h; obtain ⟨-, rfl, -⟩ := h; exact K ρ t L hR
  | .loopP _ _, S, cs, S', sc', ρ, t, L, h, hc, hR, K => by simp only [pre0, Option.some.injEq, Prod.mk.injEq] at h; obtain ⟨-, rfl, -⟩ := h; exact K ρ t L hR
  | .cas _ _ _, S, cs, S', sc', ρ, t, L, h, hc, hR, K => by simp only [pre0, Option.some.injEq, Prod.mk.injEq] at h; obtain ⟨-, rfl, -⟩ := h; exact K ρ t L hR
  | .D _ _, S, cs, S', sc', ρ, t, L, h, hc, hR, K => by simp only [pre0, Option.some.injEq, Prod.mk.injEq] at h; obtain ⟨-, rfl, -⟩ := h; exact K ρ t L hR

theorem pre_ok {c : Code} {Q : Exit → TM → GH → Prop} (sc : Sc) (S : XS) (cs : List Prop) (S' : XS) (sc' : Sc) (ρ : Rho) (t : TM) (L : GH) (h : pre sc S = some (cs, S', sc')) (hc : ∀ p ∈ cs, p) (hR : Rel F ρ S t L) (K : ∀ ρ' t' L', Rel F ρ' S' t' L' → J P N c Q t' L') : J P N c Q t L := by
  unfold pre at h
  split at h
  · exact pre0_ok sc S.pl cs S' sc' ρ t L h hc hR.pl K
  · simp only [Option.some.injEq, Prod.mk.injEq] at h
    obtain ⟨-, rfl, -⟩ := h
    exact K ρ t L hR

theorem casP_of {v : Int} {f : Int → Prop} : ∀ {l : List Int}, casD v l → casP v f l → f v
  | [], h, _ => h.elim
  | c :: l, h, k => by
    rcases h with h | h
    · subst h; exact k.1 rfl
    · exact casP_of h k.2
theorem xcas_ok {c : Code} {Q : Exit → TM → GH → Prop} {f : XS → Sc → Prop} {ρ : Rho} {t : TM} {L : GH} : ∀ (sc : Sc) (S : XS), xcas f sc S → Rel F ρ S t L → (∀ S' sc', f S' sc' → Rel F ρ S' t L → J P N c Q t L) → J P N c Q t L
  | .cas d l k, S, h, hR, K => by
    simp only [xcas] at h
    split at h
    · rename_i kk v hl
      have h2 := casP_of h.1 h.2
      refine xcas_ok k _ h2 ⟨fun i => ?_, hR.rw, hR.inj, hR.nx, hR.fr, hR.pin, hR.gh⟩ K
      show RV _ (look ((d, .v (.p (.int kk v))) :: S.s) i) _
      rw [look_put]
      split
      · rename_i hi
        have := hR.sl d
        rw [hl] at this
        rw [hi]
        exact this
      · exact hR.sl i
    · exact h.elim
  | .casb d k, S, h, hR, K => by
    simp only [xcas] at h
    split at h
    · rename_i v hl
      have put' : ∀ c', v = c' → Rel F ρ { S with s := (d, .v (.p (.bool c'))) :: S.s } t L := by
        rintro c' rfl
        refine ⟨fun i => ?_, hR.rw, hR.inj, hR.nx, hR.fr, hR.pin, hR.gh⟩
        show RV _ (look ((d, .v (.p (.bool v))) :: S.s) i) _
        rw [look_put]
        split
        · rename_i hi
          have := hR.sl d
          rw [hl] at this
          rw [hi]
          exact this
        · exact hR.sl i
      cases v with
      | true => exact xcas_ok k _ (h.1 rfl) (put' _ rfl) K
      | false => exact xcas_ok k _ (h.2 rfl) (put' _ rfl) K
    · exact h.elim
  | .nil, S, h, hR, K => K _ _ h hR
  | .seq .., S, h, hR, K => K _ _ h hR
  | .cut .., S, h, hR, K => K _ _ h hR
  | .cond .., S, h, hR, K => K _ _ h hR
  | .T .., S, h, hR, K => K _ _ h hR
  | .F .., S, h, hR, K => K _ _ h hR
  | .blk .., S, h, hR, K => K _ _ h hR
  | .loop .., S, h, hR, K => K _ _ h hR
  | .roll .., S, h, hR, K => K _ _ h hR
  | .loopP .., S, h, hR, K => K _ _ h hR
  | .D .., S, h, hR, K => K _ _ h hR
  | .fk .., S, h, hR, K => K _ _ h hR
  | .frzc .., S, h, hR, K => K _ _ h hR
  | .own .., S, h, hR, K => K _ _ h hR
  | .frz .., S, h, hR, K => K _ _ h hR

theorem JN.mono {ops : Array Oper} {tb : Nat → Nat} : ∀ {l : List Oper} {ann : List (List Nat × Option Nat)} {t : TM} {L : GH} {K K' : TM → GH → Prop}, JN P N ops tb l ann t L K → (∀ t L, K t L → K' t L) → JN P N ops tb l ann t L K'
  | [], _, t, L, K, K', h, hk => hk t L h
  | o :: os, ann, t, L, K, K', ⟨v, W, h1, h2, h3⟩, hk => ⟨v, W, h1, h2, JN.mono h3 hk⟩

/-- What is told behind a piece of code. -/
def QX (F : Fr) (Q : Exit → XS → Prop) : Exit → TM → GH → Prop := fun e t L => ∃ ρ S, Rel F ρ S t L ∧ Q e S

theorem xwp_ok {X : Cx} (hX : X.ok P) : ∀ (c : Code) (sc : Sc) (S : XS) (Q : Exit → XS → Prop) (ρ : Rho) (t : TM) (L : GH), xwp X N c sc S Q → Rel F ρ S t L → J P N c (QX F Q) t L
  | .skip, sc, S, Q, ρ, t, L, h, hR => J.skip ⟨ρ, S, hR, by simpa [xwp] using h⟩
  | .region id ops draw, sc, S, Q, ρ, t, L, h, hR => by
    simp only [xwp] at h
    have e : ops = ops.toList.toArray := by simp
    refine xcas_ok _ _ h hR fun S _ h hR => ?_
    split at h
    · rw [e]
      refine J.region ?_
      split at h
      · exact xgf_ok (N := N) (ops := ops.toList.toArray) (Q := QX F Q) hX ops.toList S [] _ ρ t L (by simpa using h) hR (DA.nil _) (fun ρ' S' t' L' hR' hq => ⟨ρ', S', hR', hq⟩)
      have := xgo_ok (N := N) (ops := ops.toList.toArray) (Q := QX F Q) hX ops.toList S [] _ ρ t L (by simpa using h) hR (GA.nil _ _) (fun ρ' S' t' L' hR' hq => ⟨ρ', S', hR', hq⟩)
      exact this
    · obtain ⟨ann, S', t', L', i1, i2, i3, i4, i5, i6⟩ := xdr_ok (N := N) (ops := ops) hX S.nx (ops.toList.take (dropAl ops.toList (drawN ops.toList))) S [] [] _ t L h hR (GA.nil _ _)
      split at i4
      · rename_i hB
        rw [List.append_nil, List.reverse_reverse, Bool.and_eq_true] at hB
        split at i4
        · rename_i S2 hxal
          have hle := dropAl_le ops.toList (drawN ops.toList)
          have hdl := drawN_le ops.toList
          have hAl : ((ops.toList.take (drawN ops.toList)).drop (dropAl ops.toList (drawN ops.toList))).length = drawN ops.toList - dropAl ops.toList (drawN ops.toList) := by
            rw [List.length_drop, List.length_take]; omega
          have hAi : ∀ i, i < ((ops.toList.take (drawN ops.toList)).drop (dropAl ops.toList (drawN ops.toList))).length → ((ops.toList.take (drawN ops.toList)).drop (dropAl ops.toList (drawN ops.toList)))[i]? = ops.toList[dropAl ops.toList (drawN ops.toList) + i]? := by
            intro i hi
            rw [List.getElem?_drop, List.getElem?_take_of_lt (by omega)]
          rw [e]
          refine J.drawA (tbOf ρ S.nx) ann (dropAl ops.toList (drawN ops.toList)) (rowAl X ops.toList) hX.M hle (fun i hi1 hi2 => ?_) hB.1 hB.2 i6 i1 ?_ ?_ ?_
          · obtain ⟨o, ho, ha⟩ := dropAl_is ops.toList (drawN ops.toList) i hi1 hi2
            refine ⟨o, ho, ha, ?_⟩
            have hst := xal_step (ops := ops.toList.toArray) (N := N) (P := P) hX (l := ops.toList) _ (dropAl ops.toList (drawN ops.toList)) S' S2 hAi hxal (i - dropAl ops.toList (drawN ops.toList)) o (by rw [hAi _ (by omega), show dropAl ops.toList (drawN ops.toList) + (i - dropAl ops.toList (drawN ops.toList)) = i by omega]; exact ho) ha
            rw [show dropAl ops.toList (drawN ops.toList) + (i - dropAl ops.toList (drawN ops.toList)) = i by omega] at hst
            exact hst
          · have use : ∀ k x, x ∈ (ann.getD k ([], none)).1 ∨ (ann.getD k ([], none)).2 = some x → (findR S.h x).isSome = true := by
              intro k x hx
              rw [List.getD_eq_getElem?_getD] at hx
              cases hk : ann[k]? with
              | none => rw [hk] at hx; simp at hx
              | some a => rw [hk] at hx; exact (i5 a (List.mem_of_getElem? hk)).1 x hx
            intro k x y hx j hy hxy
            exact tbOf_inj hR (use k x hx) (use j y hy) hxy
          · intro k x hx
            rw [List.getD_eq_getElem?_getD] at hx
            cases hk : ann[k]? with
            | none => rw [hk] at hx; simp at hx
            | some a =>
              rw [hk] at hx
              obtain ⟨a1, a2⟩ := i5 a (List.mem_of_getElem? hk)
              obtain ⟨g, hg⟩ := a2 x hx
              have hs := a1 x (.inr hx)
              have e1 : tbOf ρ S.nx x = g := by simp [tbOf, hg]
              rw [e1, rowsOf_ok hR x g hg hs]
              rfl
          · have e3 : ops.toList.toArray = ops := by simp
            rw [e3]
            refine JN.mono i2 fun t2 L2 ⟨e1, e2⟩ σ hs1 hs2 => ?_
            subst e1 e2
            obtain ⟨ρ2, hR2⟩ := xal_ok (N := N) (X := X) (l := ops.toList) (σ := σ) _ (dropAl ops.toList (drawN ops.toList)) S' S2 ρ _ _ hAi hxal i3 (fun i hi => hs1 _ (by omega) (by rw [hAl] at hi; omega)) (fun i j hi hj eq => by rw [hAl] at hi hj; have := hs2 _ _ (by omega) (by omega) (by omega) (by omega) eq; omega)
            rw [hAl] at hR2
            exact xgo_ok (N := N) (ops := ops) (Q := QX F Q) hX _ S2 [] _ ρ2 _ _ i4 hR2 (GA.nil _ _) (fun ρ' S'' t'' L'' hR' hq => ⟨ρ', S'', hR', hq⟩)
        · exact i4.elim
      · exact i4.elim
  | .seq a b, sc, S, Q, ρ, t, L, h, hR => by
    simp only [xwp] at h
    refine xcas_ok _ _ h hR fun S sc h hR => ?_
    split at h
    · exact h.elim
    · rename_i cs S1 Jv s1 s2 hp
      obtain ⟨hc, h1, h2⟩ := andK_all _ _ h
      refine pre_ok sc S cs S1 _ ρ t L hp hc hR fun ρ' t' L' hR' => ?_
      refine J.seq ((xwp_ok hX a s1 S1 _ ρ' t' L' h1 hR').mono ?_)
      rintro e t2 L2 ⟨ρ2, S2, hR2, hq⟩
      cases e with
      | normal =>
        obtain ⟨x, hx, hm⟩ := hq
        exact xwp_ok hX b s2 _ Q _ t2 L2 (h2 x hx) (SM_ok hm hR2)
      | _ => exact ⟨ρ2, S2, hR2, hq⟩
    · rename_i cs S1 sc' hneg hp
      obtain ⟨hc, h1⟩ := andK_all _ _ h
      refine pre_ok sc S cs S1 _ ρ t L hp hc hR fun ρ' t' L' hR' => ?_
      refine J.seq ((xwp_ok hX a _ S1 _ ρ' t' L' h1 hR').mono ?_)
      rintro e t2 L2 ⟨ρ2, S2, hR2, hq⟩
      cases e with
      | normal => exact xwp_ok hX b _ S2 Q ρ2 t2 L2 hq hR2
      | _ => exact ⟨ρ2, S2, hR2, hq⟩
  | .cond o a b, sc, S, Q, ρ, t, L, h, hR => by
    simp only [xwp] at h
    split at h
    · rename_i p c heq
      obtain ⟨hc, h2⟩ := andK_all _ _ h
      clear h
      have hv := st_none (xev_ok hR o) (by rw [heq]; exact hc)
      rw [heq] at hv
      simp only [RV] at hv
      split at h2
      · obtain ⟨hcc, h3⟩ := h2
        rw [hcc] at hv
        exact J.ifT hv (xwp_ok hX a _ S Q ρ t L h3 hR)
      · obtain ⟨hcc, h3⟩ := h2
        rw [hcc] at hv
        exact J.ifF hv (xwp_ok hX b _ S Q ρ t L h3 hR)
      · cases c with
        | true => exact J.ifT hv (xwp_ok hX a _ S Q ρ t L h2 hR)
        | false => exact J.ifF hv (xwp_ok hX b _ S Q ρ t L h2 hR)
      · exact J.cond hv (fun hh => xwp_ok hX a _ S Q ρ t L (h2.1 hh) hR) (fun hh => xwp_ok hX b _ S Q ρ t L (h2.2 hh) hR)
    · exact h.elim
  | .block id c, sc, S, Q, ρ, t, L, h, hR => by
    simp only [xwp] at h
    refine J.block ((xwp_ok hX c _ S _ ρ t L h hR).mono ?_)
    rintro e t2 L2 ⟨ρ2, S2, hR2, hq⟩
    cases e with
    | exit j =>
      simp only [inbX, beqN] at hq
      simp only [inb]
      by_cases hj : j = id
      · rw [decide_eq_true hj, cond_true] at hq
        rw [if_pos hj]
        exact ⟨ρ2, S2, hR2, hq⟩
      · rw [decide_eq_false hj, cond_false] at hq
        rw [if_neg hj]
        exact ⟨ρ2, S2, hR2, hq⟩
    | _ => exact ⟨ρ2, S2, hR2, hq⟩
  | .loop c, sc, S, Q, ρ, t, L, h, hR => by
    simp only [xwp] at h
    split at h
    · rename_i I s
      obtain ⟨⟨x0, hx0, hm0⟩, h⟩ := h
      refine J.loop (fun n t L => ∃ x ρ, I.inv x ∧ I.μ x = n ∧ Rel F ρ (I.S x) t L) (I.μ x0) ⟨x0, _, hx0, rfl, SM_ok hm0 hR⟩ ?_
      rintro n t1 L1 ⟨x, ρ1, hx, rfl, hR1⟩
      refine (xwp_ok hX c s _ _ ρ1 t1 L1 (h x hx) hR1).mono ?_
      rintro e t2 L2 ⟨ρ2, S2, hR2, hq⟩
      cases e with
      | normal =>
        obtain ⟨x', hx', hlt, hm⟩ := hq
        exact ⟨I.μ x', hlt, x', _, hx', rfl, SM_ok hm hR2⟩
      | _ => exact ⟨ρ2, S2, hR2, hq⟩
    · rename_i P s
      obtain ⟨p, ⟨x0, hx0, hm0⟩, h⟩ := h
      refine J.loop (fun n t L => ∃ x ρ, (P.J p).inv x ∧ (P.J p).μ x = n ∧ Rel F ρ ((P.J p).S x) t L) ((P.J p).μ x0) ⟨x0, _, hx0, rfl, SM_ok hm0 hR⟩ ?_
      rintro n t1 L1 ⟨x, ρ1, hx, rfl, hR1⟩
      refine (xwp_ok hX c s _ _ ρ1 t1 L1 (h x hx) hR1).mono ?_
      rintro e t2 L2 ⟨ρ2, S2, hR2, hq⟩
      cases e with
      | normal =>
        obtain ⟨x', hx', hlt, hm⟩ := hq
        exact ⟨(P.J p).μ x', hlt, x', _, hx', rfl, SM_ok hm hR2⟩
      | _ => exact ⟨ρ2, S2, hR2, hq⟩
    · rename_i n s
      refine J.loop (fun n t L => ∃ S ρ, Rel F ρ S t L ∧ xroll (fun S Q => xwp X N c s S Q) Q n S) n ⟨S, ρ, hR, h⟩ ?_
      rintro n t1 L1 ⟨S1, ρ1, hR1, hq1⟩
      cases n with
      | zero => exact hq1.elim
      | succ n =>
        refine (xwp_ok hX c s S1 _ ρ1 t1 L1 hq1 hR1).mono ?_
        rintro e t2 L2 ⟨ρ2, S2, hR2, hq⟩
        cases e with
        | normal => exact ⟨n, by omega, S2, ρ2, hR2, hq⟩
        | _ => exact ⟨ρ2, S2, hR2, hq⟩
    · exact h.elim
  | .exit id, sc, S, Q, ρ, t, L, h, hR => J.exit ⟨ρ, S, hR, by simpa [xwp] using h⟩
  | .ret, sc, S, Q, ρ, t, L, h, hR => J.ret ⟨ρ, S, hR, by simpa [xwp] using h⟩
  | .rangeFunc .., sc, S, Q, ρ, t, L, h, hR => by simp [xwp] at h
  | .scope _, sc, S, Q, ρ, t, L, h, hR => by simp [xwp] at h
  | .label _, sc, S, Q, ρ, t, L, h, hR => by simp [xwp] at h
  | .goto _, sc, S, Q, ρ, t, L, h, hR => by simp [xwp] at h
  | .refuse _, sc, S, Q, ρ, t, L, h, hR => by simp [xwp] at h
end
end Go.Proofs.YtljgkjkdmoejfaaAv
