/-
  SYMBOLIC RUNS over the model (own framework, part 25): functions' contracts.
-/
import Derived.Test.YtljgkjkdmoejfaaAvXk
set_option linter.unusedVariables false
set_option linter.unusedSimpArgs false
namespace Go.Proofs.YtljgkjkdmoejfaaAv
open Go Go.RowKit

/-- What a function leaves, told in other words. -/
theorem JF.conv {P : Program} {f : FuncId} {args : List AV} {L : GH} {R R2 : AV → GH → Prop} (h : JF P f args L R)
    (k : ∀ v L1 w x, R v L1 → (∀ g r, L1 g = some r → RowR L1 w g r) → VS L1 w v x → ∃ v2 L2, VS L2 w v2 x ∧ (∀ g r, L2 g = some r → RowR L2 w g r) ∧ (∀ b, L1 b = none → L2 b = none) ∧ R2 v2 L2) : JF P f args L R2 :=
  fun w xs hg hv hw => (h w xs hg hv hw).mono fun e w' ⟨v, x, L1, he, hv, hrows, hx, hr⟩ => by
    obtain ⟨v2, L2, h1, h2, h3, h4⟩ := k v L1 w' x hr hrows hv
    exact ⟨v2, x, L2, he, h1, h2, hx.trans (Ext.drop w' h3), h4⟩

section
variable {P : Program} {ρ : Rho} {F : Fr} {S : XS} {t : TM} {L : GH} {w : World}

mutual
theorem RV.pd {ρ : Rho} : ∀ (x : XV) (b : AV), x.pd = true → RV ρ x b → b = toAV x
  | .v a, b, _, k => by simpa [RV, toAV] using k
  | .fz n sz f, b, _, k => by simpa [RV] using k
  | .agg cs, b, h, k => by
    simp only [XV.pd] at h
    simp only [RV] at k
    obtain ⟨bs, rfl, hr⟩ := k
    rw [toAV, RVL.pd cs bs h hr]
  | .tup cs, b, h, k => by
    simp only [XV.pd] at h
    simp only [RV] at k
    obtain ⟨bs, rfl, hr⟩ := k
    rw [toAV, RVL.pd cs bs h hr]
  | .sl .., b, h, _ => by simp [XV.pd] at h
  | .ptr .., b, h, _ => by simp [XV.pd] at h
  | .fp .., b, h, _ => by simp [XV.pd] at h
  | .fsel .., b, h, _ => by simp [XV.pd] at h
  | .gd .., b, h, _ => by simp [XV.pd] at h
  | .top, b, h, _ => by simp [XV.pd] at h
theorem RVL.pd {ρ : Rho} : ∀ (cs : List XV) (bs : List AV), pdL cs = true → RVL ρ cs bs → bs = toAVL cs
  | [], [], _, _ => rfl
  | c :: cs, b :: bs, h, k => by
    simp only [pdL, Bool.and_eq_true] at h
    simp only [RVL] at k
    rw [toAVL, ← RV.pd c b h.1 k.1, ← RVL.pd cs bs h.2 k.2]
  | [], _ :: _, _, k => by simp [RVL] at k
  | _ :: _, [], _, k => by simp [RVL] at k
end
mutual
theorem pd_RV (ρ : Rho) : ∀ (x : XV), x.pd = true → RV ρ x (toAV x)
  | .v a, _ => by simp [RV, toAV]
  | .fz n sz f, _ => by simp [RV]
  | .agg cs, h => by
    simp only [XV.pd] at h
    simp only [RV, toAV]
    exact ⟨_, rfl, pd_RVL ρ cs h⟩
  | .tup cs, h => by
    simp only [XV.pd] at h
    simp only [RV, toAV]
    exact ⟨_, rfl, pd_RVL ρ cs h⟩
  | .sl .., h => by simp [XV.pd] at h
  | .ptr .., h => by simp [XV.pd] at h
  | .fp .., h => by simp [XV.pd] at h
  | .fsel .., h => by simp [XV.pd] at h
  | .gd .., h => by simp [XV.pd] at h
  | .top, h => by simp [XV.pd] at h
theorem pd_RVL (ρ : Rho) : ∀ (cs : List XV), pdL cs = true → RVL ρ cs (toAVL cs)
  | [], _ => by simp [RVL, toAVL]
  | c :: cs, h => by
    simp only [pdL, Bool.and_eq_true] at h
    simp only [RVL, toAVL]
    exact ⟨pd_RV ρ c h.1, pd_RVL ρ cs h.2⟩
end

/-- L2 tells no block that is one of the state's own. -/
def Off (ρ : Rho) (S : XS) (L2 : GH) : Prop := ∀ id g e ap n sz f, findR S.h id = some (.vec e ap n sz f) → ρ id = some (some g) → L2 g = none

theorem VS_fz0 {L : GH} {w : World} (f : Nat → List AV) (sz : Nat) : VS L w (.fz 0 (vecOf 0 sz f)) (.slice none 0 0) := by
  simp only [VS]
  exact ⟨none, 0, [], rfl, Nat.le_refl _, .inl rfl, by simp [vecOf, VSL]⟩

mutual
/-- What a result is, is what it is told to be. -/
theorem RX_VS (hR : Rel F ρ S t L) (hrows : ∀ g r, L g = some r → RowR L w g r) {L2 : GH} (hd : ∀ b, L b = none → L2 b = none) (ho : Off ρ S L2) : ∀ (y : XV) (x : XV) (b : AV) (z : Value), y.pd = true → RX S x y → RV ρ x b → VS L w b z → VS L2 w (toAV y) z
  | .v a, x, b, z, hp, h, k, hz => by
    have hx : x = .v a := by
      unfold RX at h
      split at h <;> first | exact VM_eq h | (rename_i heq; cases heq) | (rename_i heq _; cases heq)
    subst hx
    simp only [RV] at k
    subst k
    exact VS.ext (Ext.drop w hd) _ _ hz
  | .fz n' sz' g, x, b, z, hp, h, k, hz => by
    unfold RX at h
    split at h
    · rename_i id sz n n2 sz2 g2 heq
      injection heq with q1 q2 q3
      subst q1 q2 q3
      split at h
      · rename_i e m s f hf
        obtain ⟨⟨rfl, rfl⟩, rfl, rfl, hfg⟩ := h
        have hvec : vecOf m s (fun i => toAVL (f i)) = vecOf m s fun i => toAVL (g i) := vecOf_congr fun j hj => by rw [hfg j hj]
        simp only [RV] at k
        rcases k with ⟨g0, hg, rfl⟩ | ⟨hg, rfl, -, rfl⟩
        · obtain ⟨row, hL, hrow⟩ := (hR.rw id _ hf).some_g hg
          simp only [RRow] at hrow
          subst hrow
          have hoff := ho id g0 _ _ _ _ _ hf hg
          simp only [toAV]
          rw [← hvec]
          -- as a slice that is only read
          simp only [VS, Nat.zero_mul] at hz ⊢
          obtain ⟨a, cap, rfl, hn, hc⟩ := hz
          obtain ⟨c, fr, vs, hh, _, _, hle, hvs, hv, h1⟩ := hrows g0 _ hL
          refine ⟨a, cap, vs, rfl, hn, ?_, VSL.ext (Ext.drop w hd) _ _ hv⟩
          rcases hc with hc | ⟨rfl, _⟩
          · left
            have : m = 0 := by omega
            have hl := hv.length
            simp only [vecOf_length] at hl
            rw [this, Nat.zero_mul] at hl
            exact List.length_eq_zero_iff.1 hl.symm
          · refine .inr ⟨_, rfl, hoff, h1, fun i v hi => ?_⟩
            rw [add_plain, Nat.zero_add]
            rw [hvs, List.getElem?_take] at hi
            split at hi
            · simp only [World.cell?, hh]
              simpa using hi
            · cases hi
        · simp only [VS] at hz
          subst hz
          exact VS_fz0 _ _
      · exact h.elim
    · rename_i n2 sz2 g2 heq
      injection heq with q1 q2 q3
      subst q1 q2 q3
      subst h
      simp only [RV] at k
      subst k
      simp only [VS] at hz
      subst hz
      exact VS_fz0 _ _
    · rename_i n sz f n2 sz2 g2 heq
      injection heq with q1 q2 q3
      subst q1 q2 q3
      obtain ⟨rfl, rfl, hfg⟩ := h
      simp only [RV, toAV] at k
      subst k
      simp only [toAV]
      rw [← vecOf_congr (g := fun i => toAVL (f i)) fun j hj => by rw [hfg j hj]]
      exact VS.ext (Ext.drop w hd) _ _ hz
    · rename_i heq; cases heq
    · rename_i heq; cases heq
    · have := VM_eq h
      subst this
      have := RV.pd _ _ hp k
      subst this
      exact VS.ext (Ext.drop w hd) _ _ hz
  | .agg ds, x, b, z, hp, h, k, hz => by
    unfold RX at h
    split at h
    · rename_i heq; cases heq
    · rename_i heq; cases heq
    · rename_i heq; cases heq
    · rename_i cs ds2 heq
      injection heq with heq
      subst heq
      simp only [RV] at k
      obtain ⟨bs, rfl, hr⟩ := k
      simp only [VS] at hz
      obtain ⟨vs, rfl, hv⟩ := hz
      simp only [toAV, VS]
      simp only [XV.pd] at hp
      exact ⟨vs, rfl, RXL_VS hR hrows hd ho ds _ _ _ hp h hr hv⟩
    · rename_i heq; cases heq
    · have := VM_eq h
      subst this
      have := RV.pd _ _ hp k
      subst this
      exact VS.ext (Ext.drop w hd) _ _ hz
  | .tup ds, x, b, z, hp, h, k, hz => by
    unfold RX at h
    split at h
    · rename_i heq; cases heq
    · rename_i heq; cases heq
    · rename_i heq; cases heq
    · rename_i heq; cases heq
    · rename_i cs ds2 heq
      injection heq with heq
      subst heq
      simp only [RV] at k
      obtain ⟨bs, rfl, hr⟩ := k
      simp only [VS] at hz
      obtain ⟨vs, rfl, hv⟩ := hz
      simp only [toAV, VS]
      simp only [XV.pd] at hp
      exact ⟨vs, rfl, RXL_VS hR hrows hd ho ds _ _ _ hp h hr hv⟩
    · have := VM_eq h
      subst this
      have := RV.pd _ _ hp k
      subst this
      exact VS.ext (Ext.drop w hd) _ _ hz
  | .sl .., x, b, z, hp, _, _, _ => by simp [XV.pd] at hp
  | .ptr .., x, b, z, hp, _, _, _ => by simp [XV.pd] at hp
  | .fp .., x, b, z, hp, _, _, _ => by simp [XV.pd] at hp
  | .fsel .., x, b, z, hp, _, _, _ => by simp [XV.pd] at hp
  | .gd .., x, b, z, hp, _, _, _ => by simp [XV.pd] at hp
  | .top, x, b, z, hp, _, _, _ => by simp [XV.pd] at hp
theorem RXL_VS (hR : Rel F ρ S t L) (hrows : ∀ g r, L g = some r → RowR L w g r) {L2 : GH} (hd : ∀ b, L b = none → L2 b = none) (ho : Off ρ S L2) : ∀ (ys : List XV) (xs : List XV) (bs : List AV) (zs : List Value), pdL ys = true → RXL S xs ys → RVL ρ xs bs → VSL L w bs zs → VSL L2 w (toAVL ys) zs
  | [], [], [], [], _, _, _, _ => by simp [toAVL, VSL]
  | y :: ys, x :: xs, b :: bs, z :: zs, hp, h, k, hz => by
    simp only [pdL, Bool.and_eq_true] at hp
    simp only [RXL] at h
    simp only [RVL] at k
    simp only [VSL] at hz
    simp only [toAVL, VSL]
    exact ⟨RX_VS hR hrows hd ho y x b z hp.1 h.1 k.1 hz.1, RXL_VS hR hrows hd ho ys xs bs zs hp.2 h.2 k.2 hz.2⟩
  | [], _ :: _, _, _, _, h, _, _ => by simp [RXL] at h
  | _ :: _, [], _, _, _, h, _, _ => by simp [RXL] at h
  | [], [], _ :: _, _, _, _, k, _ => by simp [RVL] at k
  | _ :: _, _ :: _, [], _, _, _, k, _ => by simp [RVL] at k
  | [], [], [], _ :: _, _, _, _, hz => by simp [VSL] at hz
  | _ :: _, _ :: _, _ :: _, [], _, _, _, hz => by simp [VSL] at hz
end

theorem xres_ok {X : Cx} (hX : X.ok P) (hR : Rel F ρ S t L) : ∀ {rs : List ResultVar} {vs : List XV}, xress X S rs = some vs → ∃ bs, outsC P t L rs bs ∧ RVL ρ vs bs
  | [], vs, h => by
    simp only [xress, Option.some.injEq] at h
    subst h
    exact ⟨[], trivial, by simp [RVL]⟩
  | r :: rs, vs, h => by
    simp only [xress] at h
    split at h
    · rename_i v vs' h1 h2
      obtain rfl := Option.some.inj h
      obtain ⟨bs, k1, k2⟩ := xres_ok hX hR h2
      have : ∃ b, outC P t L r b ∧ RV ρ v b := by
        cases r with
        | tmp s =>
          simp only [xres, Option.some.injEq] at h1
          subst h1
          exact ⟨t s, rfl, hR.sl s⟩
        | cell c T =>
          simp only [xres] at h1
          split at h1
          · rename_i id o a z m b hl ha hi
            have hc := hR.sl c
            rw [hl] at hc
            simp only [RV] at hc
            obtain ⟨g, hg, hc⟩ := hc
            obtain ⟨u, hu, hag⟩ : ∃ u, P.underlying T = some u ∧ aggT u = a := by
              unfold aggB at ha
              split at ha
              · rename_i u hu; exact ⟨u, okU_fnd hX.U hu, Option.some.inj ha⟩
              · cases ha
            have hI := okI_fnd hX.I hi
            split at h1
            · rename_i e ap cs hf
              obtain ⟨row, hL, hrow⟩ := (hR.rw id _ hf).some_g hg
              simp only [RRow] at hrow
              obtain ⟨-, -, hrow⟩ := hrow
              have hlen := hrow.length
              split at h1
              · split at h1
                · rename_i hle
                  obtain rfl := Option.some.inj h1
                  rw [bleN, decide_eq_true_eq, xlen_eq] at hle
                  have hm : ((row.cs.drop o).take m).length = m := by rw [List.length_take, List.length_drop]; omega
                  refine ⟨.agg ((row.cs.drop o).take m), ⟨g, o, row, u, by simpa using hc, hL, hu, .inl ⟨hag, z, b, (row.cs.drop o).take m, by rw [hm]; exact hI, by rw [hm], by rw [hm]; omega, rfl⟩⟩, ?_⟩
                  simp only [RV]
                  exact ⟨_, rfl, by rw [xtake_eq, xdrop_eq]; exact (hrow.drop o).take m⟩
                · cases h1
              · split at h1
                · rename_i hlt
                  obtain rfl := Option.some.inj h1
                  obtain ⟨b', hb, hv⟩ := hrow.getD' o hlt
                  exact ⟨b', ⟨g, o, row, u, by simpa using hc, hL, hu, .inr ⟨hag, hb⟩⟩, hv⟩
                · cases h1
            · cases h1
          · cases h1
      obtain ⟨b, e1, e2⟩ := this
      exact ⟨b :: bs, ⟨e1, k1⟩, by simp only [RVL]; exact ⟨e2, k2⟩⟩
    · cases h

theorem xout_ok : ∀ {vs : List XV} {bs : List AV}, RVL ρ vs bs → RV ρ (xout vs) (out1 bs)
  | [], [], h => by simp only [xout, out1, RV]; exact ⟨_, rfl, h⟩
  | [v], [b], h => by simp only [RVL] at h; exact h.1
  | v :: v2 :: vs, b :: b2 :: bs, h => by simp only [xout, out1, RV]; exact ⟨_, rfl, h⟩
  | [v], b :: b2 :: bs, h => by simp [RVL] at h
  | v :: v2 :: vs, [b], h => by simp [RVL] at h
  | [], _ :: _, h => by simp [RVL] at h
  | _ :: _, [], h => by simp [RVL] at h

/-- A function, run. -/
theorem fun_ok {X : Cx} (hX : X.ok P) {f : FuncId} {fn : Func} {c : Code} (hf : P.funcs[f]? = some fn) (hb : fn.body = some c) {bs : List AV} (hn : bs.length ≤ fn.ntmps) {sc : Sc} {R : XV → XS → Prop} (hR : Rel F ρ S (tm0 bs) L) (h : xwp X fn.ntmps c sc S (retX X fn.results.toList R)) :
    JF P f bs L fun v L1 => ∃ ρ' S' t' xv, Rel F ρ' S' t' L1 ∧ RV ρ' xv v ∧ R xv S' := by
  refine JF.bodyC hf hb hn ((xwp_ok hX c sc S _ ρ _ L h hR).mono ?_)
  rintro e t1 L1 ⟨ρ1, S1, hR1, hq⟩
  have fin : (match xress X S1 fn.results.toList with | some vs => R (xout vs) S1.pl | none => False) → ∃ vs L', outsC P t1 L1 fn.results.toList vs ∧ (∀ g r, L' g = some r → L1 g = some r) ∧ ∃ ρ' S' t' xv, Rel F ρ' S' t' L' ∧ RV ρ' xv (out1 vs) ∧ R xv S' := by
    intro hq
    split at hq
    · rename_i vs hvs
      obtain ⟨bs, k1, k2⟩ := xres_ok hX hR1 hvs
      exact ⟨bs, L1, k1, fun _ _ h => h, ρ1, S1.pl, t1, xout vs, hR1.pl, xout_ok k2, hq⟩
    · exact hq.elim
  cases e with
  | normal => exact fin hq
  | ret => exact fin hq
  | _ => exact hq.elim

theorem look_slots {ρ : Rho} : ∀ {args : List XV} {bs : List AV} (k : Nat), RVL ρ args bs → ∀ i, RV ρ (look (xslots k args) i) (if k ≤ i then bs.getD (i - k) .top else .top) ∨ look (xslots k args) i = .top
  | [], [], k, _, i => .inr rfl
  | x :: args, b :: bs, k, h, i => by
    simp only [RVL] at h
    simp only [xslots]
    rw [look_put]
    by_cases hi : i = k
    · rw [if_pos hi, if_pos (by omega), hi]
      left
      simpa using h.1
    · rw [if_neg hi]
      rcases look_slots (k + 1) h.2 i with h1 | h1
      · by_cases hk : k + 1 ≤ i
        · rw [if_pos hk] at h1
          left
          rw [if_pos (by omega), show i - k = (i - (k + 1)) + 1 by omega]
          simpa using h1
        · rw [if_neg hk] at h1
          left
          rw [if_neg (by omega)]
          exact h1
      · exact .inr h1
  | [], _ :: _, _, h, _ => by simp [RVL] at h
  | _ :: _, [], _, h, _ => by simp [RVL] at h

def noRho : Rho := fun _ => none
theorem rel0 {args : List XV} {bs : List AV} (h : RVL noRho args bs) : Rel ⟨L, 0, []⟩ noRho ⟨xslots 0 args, [], 0, false, []⟩ (tm0 bs) L := by
  refine ⟨fun i => ?_, fun id r h => by simp [findR] at h, fun id _ _ h => by simp [findR] at h, fun _ _ => rfl, fun b r h => ⟨h, fun id hi => by simp [findR] at hi⟩, fun h => (by cases h), by simp [RVL]⟩
  rcases look_slots 0 h i with h1 | h1
  · simpa [tm0] using h1
  · show RV _ (look (xslots 0 args) i) _
    rw [h1]; simp [RV]

theorem off_F (hR : Rel F ρ S t L) : Off ρ S F.F := by
  intro id g e ap n sz f hf hg
  cases hF : F.F g with
  | none => rfl
  | some r => exact absurd hg ((hR.fr g r hF).2 id (by rw [hf]; rfl))
theorem dom_F (hR : Rel F ρ S t L) : ∀ b, L b = none → F.F b = none := by
  intro b hb
  cases hF : F.F b with
  | none => rfl
  | some r => rw [(hR.fr b r hF).1] at hb; cases hb
theorem rows_F (hR : Rel F ρ S t L) (hrows : ∀ g r, L g = some r → RowR L w g r) : ∀ g r, F.F g = some r → RowR F.F w g r := fun g r hg =>
  (hrows g r (hR.fr g r hg).1).ext (Ext.drop w (dom_F hR)) rfl

/-- A variable of the state's own is handed out, beside what is another's. -/
theorem row_out (hR : Rel F ρ S t L) (hrows : ∀ g r, L g = some r → RowR L w g r) {id g : Nat} {T : TypeId} {ap : Bool} {cells : List XV} (hg : ρ id = some (some g)) (h : rowIs S id T ap cells) (hp : pdL cells = true) :
    (∀ b r, upd F.F g ⟨T, ap, toAVL cells⟩ b = some r → RowR (upd F.F g ⟨T, ap, toAVL cells⟩) w b r) ∧ (∀ b, L b = none → upd F.F g ⟨T, ap, toAVL cells⟩ b = none) ∧ Off ρ S (upd F.F g ⟨T, ap, toAVL cells⟩) ∧ F.F g = none := by
  unfold rowIs at h
  split at h
  · rename_i e ap' ds hf
    obtain ⟨⟨rfl, rfl⟩, h⟩ := h
    obtain ⟨row, hL, hrow⟩ := (hR.rw id _ hf).some_g hg
    simp only [RRow] at hrow
    obtain ⟨q1, q2, q3⟩ := hrow
    have hFg : F.F g = none := by
      cases hF : F.F g with
      | none => rfl
      | some r => exact absurd hg ((hR.fr g r hF).2 id (by rw [hf]; rfl))
    have hd : ∀ b, L b = none → upd F.F g ⟨e, ap', toAVL cells⟩ b = none := by
      intro b hb
      rw [upd_ne]
      · exact dom_F hR b hb
      · rintro rfl; rw [hL] at hb; cases hb
    have ho : Off ρ S (upd F.F g ⟨e, ap', toAVL cells⟩) := by
      intro id' g' e' ap2 n sz f hf' hg'
      rw [upd_ne]
      · exact off_F hR id' g' _ _ _ _ _ hf' hg'
      · rintro rfl
        have := hR.inj id' id _ (by rw [hf']; rfl) (by rw [hf]; rfl) hg' hg
        subst this
        rw [hf] at hf'; cases hf'
    refine ⟨fun b r hb => ?_, hd, ho, hFg⟩
    by_cases hbg : b = g
    · subst hbg
      rw [upd_same] at hb
      obtain rfl := Option.some.inj hb
      obtain ⟨c, fr, vs, hh, ha, hfz, hle, hvs, hv, h1⟩ := hrows b row hL
      have hv2 := RXL_VS hR hrows hd ho cells ds row.cs vs hp h q3 hv
      have hlen : (toAVL cells).length = row.cs.length := by rw [hv2.length, ← hv.length]
      refine ⟨c, fr, vs, by rw [← q1]; exact hh, fun h => ha (by rw [q2]; exact h), hfz, by rw [hlen]; exact hle, by rw [hlen]; exact hvs, hv2, h1⟩
    · rw [upd_ne _ _ _ _ hbg] at hb
      exact (hrows b r (hR.fr b r hb).1).ext (Ext.drop w hd) rfl
  · exact h.elim

/-- A contract out of a symbolic run. -/
theorem ct_ok {X : Cx} (hX : X.ok P) {f : FuncId} {fn : Func} (hf : P.funcs[f]? = some fn) (hb : fn.body = some (bodyOf fn)) (hr : (fn.name == "runtime.NumGoroutine") = false) {C : CT}
    (h : ∀ args cs v, C args = some (cs, v) → (∀ p ∈ cs, p) → Nat.ble args.length fn.ntmps = true ∧ pdL args = true ∧ v.pd = true ∧ ∃ sc, funC X fn sc args v) : CTok P f C := by
  refine ⟨⟨fn, bodyOf fn, hf, hb, hr⟩, fun args cs v hC hc ρ bs hargs => ?_⟩
  obtain ⟨h0, h1, h2, sc, h3⟩ := h args cs v hC hc
  have hbs := RVL.pd _ _ h1 hargs
  subst hbs
  refine ⟨toAV v, pd_RV ρ v h2, fun L => ?_⟩
  rw [bleN, decide_eq_true_eq] at h0
  refine (fun_ok hX hf hb (by rw [toAVL_length]; exact h0) (rel0 (pd_RVL noRho args h1)) h3).conv ?_
  rintro b L1 w x ⟨ρ', S', t', xv, hR, hv, hq⟩ hrows hx
  exact ⟨toAV v, L, RX_VS hR hrows (dom_F hR) (off_F hR) v xv b x h2 hq hv hx, rows_F hR hrows, dom_F hR, rfl, rfl⟩

theorem ht_ok {X : Cx} (hX : X.ok P) {f : FuncId} {fn : Func} (hf : P.funcs[f]? = some fn) (hb : fn.body = some (bodyOf fn)) (hr : (fn.name == "runtime.NumGoroutine") = false) {H : HT}
    (h : ∀ cells rest cs v o, H cells rest = some (cs, v, o) → (∀ p ∈ cs, p) → Nat.ble (rest.length + 1) fn.ntmps = true ∧ pdL cells = true ∧ pdL rest = true ∧ v.pd = true ∧ pdL (o.getD cells) = true ∧ ∃ sc, ∀ e ap, funH X fn sc e ap cells rest v (o.getD cells)) : HTok P f H := by
  refine ⟨⟨fn, bodyOf fn, hf, hb, hr⟩, fun cells rest cs v o hH hc ρ g row bs hcells hrest => ?_⟩
  obtain ⟨h0, h1, h2, h3, h4, sc, h6⟩ := h cells rest cs v o hH hc
  have hbs := RVL.pd _ _ h2 hrest
  have hcs := RVL.pd _ _ h1 hcells
  subst hbs
  rw [bleN, decide_eq_true_eq] at h0
  refine ⟨toAV v, ⟨row.e, row.ap, toAVL (o.getD cells)⟩, pd_RV ρ v h3, ?_, fun L hL => ?_⟩
  · cases o with
    | none => simp only [Option.getD_none]; rw [← hcs]
    | some cells' => exact ⟨rfl, rfl, pd_RVL ρ _ h4⟩
  · have hR0 : Rel ⟨del L g, g, []⟩ (fun i => if i = 0 then some (some g) else none) ⟨(0, .ptr 0 0 0 0) :: xslots 1 rest, [(0, .one row.e row.ap cells)], 1, true, []⟩ (tm0 (.ptr g 0 :: toAVL rest)) L := by
      refine ⟨fun i => ?_, fun id r hfr => ?_, fun i j g' hi hj _ _ => ?_, fun id hid => ?_, fun b r hb => ?_, fun _ => ⟨by simp, by simp, _, _, _, rfl⟩, by simp [RVL]⟩
      · show RV _ (look ((0, .ptr 0 0 0 0) :: xslots 1 rest) i) _
        rw [look_put]
        by_cases hi : i = 0
        · rw [if_pos hi, hi]
          simp only [RV]
          exact ⟨g, by simp, by simp [tm0]⟩
        · rw [if_neg hi]
          rcases look_slots 1 (pd_RVL (fun i => if i = 0 then some (some g) else none) rest h2) i with k | k
          · rw [if_pos (by omega)] at k
            have : tm0 (.ptr g 0 :: toAVL rest) i = (toAVL rest).getD (i - 1) .top := by
              obtain ⟨j, rfl⟩ : ∃ j, i = j + 1 := ⟨i - 1, by omega⟩
              simp [tm0]
            rw [this]; exact k
          · rw [k]; simp [RV]
      · rw [findR_put] at hfr
        by_cases hid : id = 0
        · rw [if_pos hid] at hfr
          obtain rfl := Option.some.inj hfr
          subst hid
          refine .inl ⟨g, row, by simp, hL, ?_⟩
          simp only [RRow]
          refine ⟨trivial, trivial, ?_⟩
          rw [hcs]
          exact pd_RVL _ cells h1
        · rw [if_neg hid] at hfr; simp [findR] at hfr
      · rw [findR_put] at hi hj
        have a1 : i = 0 := by
          by_cases h : i = 0
          · exact h
          · rw [if_neg h] at hi; simp [findR] at hi
        have a2 : j = 0 := by
          by_cases h : j = 0
          · exact h
          · rw [if_neg h] at hj; simp [findR] at hj
        rw [a1, a2]
      · simp only at hid
        rw [if_neg (by omega)]
      · simp only [del] at hb
        split at hb
        · cases hb
        · rename_i hne
          refine ⟨hb, fun id hid => ?_⟩
          by_cases h : id = 0
          · rw [if_pos h]
            intro h2
            exact hne (Option.some.inj (Option.some.inj h2)).symm
          · rw [if_neg h]; simp
    refine (fun_ok hX hf hb (by simp only [List.length_cons, toAVL_length]; exact h0) hR0 (h6 row.e row.ap)).conv ?_
    rintro b L1 w x ⟨ρ', S', t', xv, hR, hv, hq⟩ hrows hx
    split at hq
    · rename_i hpn
      obtain ⟨hq, hrow⟩ := hq
      obtain ⟨p1, -, -⟩ := hR.pin hpn
      obtain ⟨k1, k2, k3, k4⟩ := row_out hR hrows p1 hrow h4
      have e1 : upd (del L g) g ⟨row.e, row.ap, toAVL (o.getD cells)⟩ = upd L g ⟨row.e, row.ap, toAVL (o.getD cells)⟩ := by
        funext b'
        simp only [upd, del]
        split <;> rfl
      rw [← e1]
      exact ⟨toAV v, _, RX_VS hR hrows k2 k3 v xv b x h3 hq hv hx, k1, k2, rfl, rfl⟩
    · exact hq.elim

theorem nt_ok {X : Cx} (hX : X.ok P) {f : FuncId} {fn : Func} (hf : P.funcs[f]? = some fn) (hb : fn.body = some (bodyOf fn)) (hr : (fn.name == "runtime.NumGoroutine") = false) {T : TypeId} {M : NT}
    (h : ∀ args cs cells, M args = some (cs, cells) → (∀ p ∈ cs, p) → Nat.ble args.length fn.ntmps = true ∧ pdL args = true ∧ pdL cells = true ∧ ∃ sc, funN X fn sc args T cells) : NTok P f T M := by
  refine ⟨⟨fn, bodyOf fn, hf, hb, hr⟩, fun args cs cells hM hc ρ bs hargs => ?_⟩
  obtain ⟨h0, h1, h2, sc, h3⟩ := h args cs cells hM hc
  have hbs := RVL.pd _ _ h1 hargs
  subst hbs
  refine ⟨toAVL cells, pd_RVL ρ cells h2, fun L => ?_⟩
  rw [bleN, decide_eq_true_eq] at h0
  refine (fun_ok hX hf hb (by rw [toAVL_length]; exact h0) (rel0 (pd_RVL noRho args h1)) h3).conv ?_
  rintro b L1 w x ⟨ρ', S', t', xv, hR, hv, hq⟩ hrows hx
  unfold ptrIs at hq
  split at hq
  · rename_i id
    simp only [RV] at hv
    obtain ⟨g, hg, rfl⟩ := hv
    obtain ⟨k1, k2, k3, k4⟩ := row_out hR hrows hg hq h2
    refine ⟨.ptr g 0, _, ?_, k1, k2, g, k4, rfl, rfl⟩
    simpa [VS] using hx
  · exact hq.elim

/-- One contract more. -/
theorem Cx.ok.addC {X : Cx} (hX : X.ok P) {f : FuncId} {C : CT} (h : CTok P f C) : ({ X with C := (f, C) :: X.C } : Cx).ok P :=
  ⟨hX.U, hX.I, fun g D hg => by
    simp only [fnd, beqN] at hg
    by_cases e : g = f
    · rw [decide_eq_true e, cond_true] at hg
      obtain rfl := Option.some.inj hg
      rw [e]; exact h
    · rw [decide_eq_false e, cond_false] at hg
      exact hX.C g D hg, hX.H, hX.N, hX.M, hX.L, hX.E⟩
theorem Cx.ok.addH {X : Cx} (hX : X.ok P) {f : FuncId} {C : HT} (h : HTok P f C) : ({ X with H := (f, C) :: X.H } : Cx).ok P :=
  ⟨hX.U, hX.I, hX.C, fun g D hg => by
    simp only [fnd, beqN] at hg
    by_cases e : g = f
    · rw [decide_eq_true e, cond_true] at hg
      obtain rfl := Option.some.inj hg
      rw [e]; exact h
    · rw [decide_eq_false e, cond_false] at hg
      exact hX.H g D hg, hX.N, hX.M, hX.L, hX.E⟩
theorem Cx.ok.addN {X : Cx} (hX : X.ok P) {f : FuncId} {T : TypeId} {C : NT} (h : NTok P f T C) : ({ X with N := (f, T, C) :: X.N } : Cx).ok P :=
  ⟨hX.U, hX.I, hX.C, hX.H, fun g T' D hg => by
    simp only [fnd, beqN] at hg
    by_cases e : g = f
    · rw [decide_eq_true e, cond_true] at hg
      simp only [Option.some.injEq, Prod.mk.injEq] at hg
      obtain ⟨rfl, rfl⟩ := hg
      rw [e]; exact h
    · rw [decide_eq_false e, cond_false] at hg
      exact hX.N g T' D hg, hX.M, hX.L, hX.E⟩
theorem Cx.ok.addL {X : Cx} (hX : X.ok P) {f : FuncId} {C : IT} (h : ITok P f C) : ({ X with L := (f, C) :: X.L } : Cx).ok P :=
  ⟨hX.U, hX.I, hX.C, hX.H, hX.N, hX.M, fun g D hg => by
    simp only [fnd, beqN] at hg
    by_cases e : g = f
    · rw [decide_eq_true e, cond_true] at hg
      obtain rfl := Option.some.inj hg
      rw [e]; exact h
    · rw [decide_eq_false e, cond_false] at hg
      exact hX.L g D hg, hX.E⟩
/-- A function that is entered. -/
theorem inl_ok {X : Cx} (hX : X.ok P) {f : FuncId} {fn : Func} (hf : P.funcs[f]? = some fn) (hb : fn.body = some (bodyOf fn)) (hr : (fn.name == "runtime.NumGoroutine") = false) (sc : List XV → XS → Sc) : ITok P f (inl X fn sc) := by
  refine ⟨⟨fn, _, hf, hb, hr⟩, fun args S K h F ρ t L bs hR ha => ?_⟩
  unfold inl at h
  split at h
  case h_2 => exact h.elim
  rename_i hn
  rw [bleN, decide_eq_true_eq, xlen_eq] at hn
  refine fun_ok hX hf hb (by rw [← ha.length]; exact hn) (S := { S with s := xslots 0 args }) (R := K) ⟨fun i => ?_, hR.rw, hR.inj, hR.nx, hR.fr, hR.pin, hR.gh⟩ h
  rcases look_slots 0 ha i with h1 | h1
  · simpa [tm0] using h1
  · show RV _ (look (xslots 0 args) i) _
    rw [h1]; simp [RV]
theorem exv {X : Cx} {fn : Func} {args : List XV} {v : XV} {p : Prop} {sc : Sc} (e : p = funC X fn sc args v) (h : p) : ∃ sc, funC X fn sc args v := ⟨sc, e ▸ h⟩
theorem exvH {X : Cx} {fn : Func} {c r : List XV} {v : XV} {c' : List XV} {p : TypeId → Bool → Prop} {sc : Sc} (e : ∀ t ap, p t ap = funH X fn sc t ap c r v c') (h : ∀ t ap, p t ap) : ∃ sc, ∀ t ap, funH X fn sc t ap c r v c' := ⟨sc, fun t ap => e t ap ▸ h t ap⟩
theorem exvN {X : Cx} {fn : Func} {args : List XV} {T : TypeId} {c : List XV} {p : Prop} {sc : Sc} (e : p = funN X fn sc args T c) (h : p) : ∃ sc, funN X fn sc args T c := ⟨sc, e ▸ h⟩
theorem via {p q : Prop} (e : p = q) (h : p) : q := by rw [← e]; exact h
theorem in64.mk {i : Int} (h0 : -9223372036854775808 ≤ i) (h1 : i ≤ 9223372036854775807) : in64 i := ⟨h0, h1⟩

/-! Kinds of arguments -/
def DcOk {α : Type} (d : Dc α) : Prop := ∀ x cs a, d.dec x = some (cs, a) → (∀ p ∈ cs, p) → x.pd = true ∧ (d.enc a).pd = true ∧ ∀ L w z, VS L w (toAV x) z → VS L w (toAV (d.enc a)) z
/-- The same, and it stands there just so. -/
def DcEq {α : Type} (d : Dc α) : Prop := ∀ x cs a, d.dec x = some (cs, a) → (∀ p ∈ cs, p) → x.pd = true ∧ (d.enc a).pd = true ∧ toAV x = toAV (d.enc a)
theorem DcEq.ok {α : Type} {d : Dc α} (h : DcEq d) : DcOk d := fun x cs a hd hc => by
  obtain ⟨h1, h2, h3⟩ := h x cs a hd hc
  exact ⟨h1, h2, fun L w z hz => by rw [← h3]; exact hz⟩
theorem dInt_eq : DcEq dInt := fun x cs a h _ => by
  simp only [dInt] at h
  split at h
  · rename_i hi
    simp only [Option.some.injEq, Prod.mk.injEq] at h
    obtain ⟨-, rfl⟩ := h
    rw [intO_eq hi]
    exact ⟨rfl, rfl, rfl⟩
  · cases h
theorem dBool_eq : DcEq dBool := fun x cs a h _ => by
  simp only [dBool] at h
  split at h
  · rename_i hi
    simp only [Option.some.injEq, Prod.mk.injEq] at h
    obtain ⟨-, rfl⟩ := h
    rw [boolO_eq hi]
    exact ⟨rfl, rfl, rfl⟩
  · cases h
theorem dStr_eq : DcEq dStr := fun x cs a h _ => by
  simp only [dStr] at h
  split at h
  · rename_i hi
    simp only [Option.some.injEq, Prod.mk.injEq] at h
    obtain ⟨-, rfl⟩ := h
    rw [strO_eq hi]
    exact ⟨rfl, rfl, rfl⟩
  · cases h
theorem dSl_ok {β : Type} {sz : Nat} {r : List XV → β} {e : β → List XV} {d : β} : DcOk (dSl sz r e d) := fun x cs a h hc => by
  simp only [dSl] at h
  split at h
  · rename_i n s f
    split at h
    · rename_i hb
      rw [beqN, decide_eq_true_eq] at hb
      simp only [Option.some.injEq, Prod.mk.injEq] at h
      obtain ⟨rfl, rfl⟩ := h
      subst hb
      refine ⟨rfl, rfl, fun L w z hz => ?_⟩
      simp only [dSl, sqX, toAV] at hz ⊢
      have := all1 hc
      rw [← vecOf_congr (g := fun i => toAVL (f i)) fun j hj => by rw [← this j hj]]
      exact hz
    · cases h
  · split at h
    · rename_i hn
      simp only [Option.some.injEq, Prod.mk.injEq] at h
      obtain ⟨-, rfl⟩ := h
      rw [nilO_eq hn]
      refine ⟨rfl, rfl, fun L w z hz => ?_⟩
      simp only [toAV, VS] at hz
      rw [hz]
      exact VS_fz0 _ _
    · cases h

theorem JF.weakArgs {f : FuncId} {bs bs' : List AV} {R : AV → GH → Prop} (h : JF P f bs' L R) (k : ∀ w xs, VSL L w bs xs → VSL L w bs' xs) : JF P f bs L R := fun w xs hg hv hw => h w xs hg (k w xs hv) hw

/-- A contract out of a symbolic run; arguments told in other words. -/
theorem ct_ok2 {X : Cx} (hX : X.ok P) {f : FuncId} {fn : Func} (hf : P.funcs[f]? = some fn) (hb : fn.body = some (bodyOf fn)) (hr : (fn.name == "runtime.NumGoroutine") = false) {C : CT}
    (h : ∀ args cs v, C args = some (cs, v) → (∀ p ∈ cs, p) → ∃ args', Nat.ble args'.length fn.ntmps = true ∧ pdL args = true ∧ pdL args' = true ∧ (∀ L w zs, VSL L w (toAVL args) zs → VSL L w (toAVL args') zs) ∧ v.pd = true ∧ ∃ sc, funC X fn sc args' v) : CTok P f C := by
  refine ⟨⟨fn, bodyOf fn, hf, hb, hr⟩, fun args cs v hC hc ρ bs hargs => ?_⟩
  obtain ⟨args', h0, h1, h1', hw, h2, sc, h3⟩ := h args cs v hC hc
  have hbs := RVL.pd _ _ h1 hargs
  subst hbs
  refine ⟨toAV v, pd_RV ρ v h2, fun L => ?_⟩
  rw [bleN, decide_eq_true_eq] at h0
  refine JF.weakArgs ((fun_ok hX hf hb (by rw [toAVL_length]; exact h0) (rel0 (pd_RVL noRho args' h1')) h3).conv ?_) (hw L)
  rintro b L1 w x ⟨ρ', S', t', xv, hR, hv, hq⟩ hrows hx
  exact ⟨toAV v, L, RX_VS hR hrows (dom_F hR) (off_F hR) v xv b x h2 hq hv hx, rows_F hR hrows, dom_F hR, rfl, rfl⟩

/-! Contracts with several ends -/
def ATok (P : Program) (f : FuncId) (C : AT) : Prop :=
  (∃ fn c, P.funcs[f]? = some fn ∧ fn.body = some c ∧ (fn.name == "runtime.NumGoroutine") = false) ∧
  ∀ args cs alts, C args = some (cs, alts) → (∀ p ∈ cs, p) → ∀ ρ bs, RVL ρ args bs → (∀ a ∈ alts, a.2.pd = true) ∧ ∀ L, JF P f bs L fun r L' => L' = L ∧ ∃ a ∈ alts, a.1 ∧ r = toAV a.2
theorem altQ_mem {S : XS} {r : XV} : ∀ {l : List (Prop × XV)}, altQ S r l → ∃ a ∈ l, a.1 ∧ RX S r a.2
  | [], h => h.elim
  | (φ, v) :: l, h => by
    rcases h with ⟨h1, h2⟩ | h
    · exact ⟨(φ, v), by simp, h1, h2⟩
    · obtain ⟨a, ha, k⟩ := altQ_mem h
      exact ⟨a, by simp [ha], k⟩
theorem altK_mem {S : XS} {K : XV → XS → Prop} : ∀ {l : List (Prop × XV)}, altK l S K → ∀ a ∈ l, a.1 → K a.2 S
  | [], _, a, ha, _ => by cases ha
  | (φ, v) :: l, h, a, ha, hp => by
    rcases List.mem_cons.1 ha with rfl | ha
    · exact h.1 hp
    · exact altK_mem h.2 a ha hp
theorem itA_ok {f : FuncId} {C : AT} (h : ATok P f C) : ITok P f (itA C) := by
  obtain ⟨h0, h⟩ := h
  refine ⟨h0, fun args S K hk F ρ t L bs hR ha => ?_⟩
  unfold itA at hk
  split at hk
  · rename_i cs alts hC
    obtain ⟨hc, hk⟩ := andK_all _ _ hk
    obtain ⟨hp, hj⟩ := h args cs alts hC hc ρ bs ha
    refine (hj L).mono ?_
    rintro r L' ⟨rfl, a, ham, hφ, rfl⟩
    exact ⟨ρ, S, t, a.2, hR, pd_RV ρ a.2 (hp a ham), altK_mem hk a ham hφ⟩
  · exact hk.elim
theorem at_ok {X : Cx} (hX : X.ok P) {f : FuncId} {fn : Func} (hf : P.funcs[f]? = some fn) (hb : fn.body = some (bodyOf fn)) (hr : (fn.name == "runtime.NumGoroutine") = false) {C : AT}
    (h : ∀ args cs alts, C args = some (cs, alts) → (∀ p ∈ cs, p) → ∃ args', Nat.ble args'.length fn.ntmps = true ∧ pdL args = true ∧ pdL args' = true ∧ (∀ L w zs, VSL L w (toAVL args) zs → VSL L w (toAVL args') zs) ∧ (∀ a ∈ alts, a.2.pd = true) ∧ ∃ sc, funA X fn sc args' alts) : ATok P f C := by
  refine ⟨⟨fn, bodyOf fn, hf, hb, hr⟩, fun args cs alts hC hc ρ bs hargs => ?_⟩
  obtain ⟨args', h0, h1, h1', hw, h2, sc, h3⟩ := h args cs alts hC hc
  have hbs := RVL.pd _ _ h1 hargs
  subst hbs
  refine ⟨h2, fun L => ?_⟩
  rw [bleN, decide_eq_true_eq] at h0
  refine JF.weakArgs ((fun_ok hX hf hb (by rw [toAVL_length]; exact h0) (rel0 (pd_RVL noRho args' h1')) h3).conv ?_) (hw L)
  rintro b L1 w x ⟨ρ', S', t', xv, hR, hv, hq⟩ hrows hx
  obtain ⟨a, ham, hφ, hq⟩ := altQ_mem hq
  exact ⟨toAV a.2, L, RX_VS hR hrows (dom_F hR) (off_F hR) a.2 xv b x (h2 a ham) hq hv hx, rows_F hR hrows, dom_F hR, rfl, a, ham, hφ, rfl⟩

theorem C0_ok {X : Cx} (hX : X.ok P) {f : FuncId} {fn : Func} (hf : P.funcs[f]? = some fn) (hb : fn.body = some (bodyOf fn)) (hr : (fn.name == "runtime.NumGoroutine") = false) {cs : List Prop} {v : XV}
    (hp : v.pd = true) (h : (∀ p ∈ cs, p) → ∃ sc, funC X fn sc [] v) : CTok P f (C0 cs v) := ct_ok2 hX hf hb hr fun args cs' v' hC hc => by
  unfold C0 at hC
  split at hC
  · simp only [Option.some.injEq, Prod.mk.injEq] at hC
    obtain ⟨rfl, rfl⟩ := hC
    exact ⟨[], by simp [bleN], rfl, rfl, fun _ _ _ h => h, hp, h hc⟩
  · cases hC
theorem C1_ok {X : Cx} (hX : X.ok P) {f : FuncId} {fn : Func} (hf : P.funcs[f]? = some fn) (hb : fn.body = some (bodyOf fn)) (hr : (fn.name == "runtime.NumGoroutine") = false) {α : Type} {d : Dc α} {cs : α → List Prop} {v : α → XV}
    (hd : DcOk d) (hn : Nat.ble 1 fn.ntmps = true) (hp : ∀ a, (v a).pd = true) (h : ∀ a, (∀ p ∈ cs a, p) → ∃ sc, funC X fn sc [d.enc a] (v a)) : CTok P f (C1 d cs v) := ct_ok2 hX hf hb hr fun args cs' v' hC hc => by
  unfold C1 at hC
  split at hC
  · split at hC
    · rename_i p a hx
      simp only [Option.some.injEq, Prod.mk.injEq] at hC
      obtain ⟨rfl, rfl⟩ := hC
      obtain ⟨h1, h2, h3⟩ := hd _ p a hx (allL hc)
      refine ⟨[d.enc a], hn, by simp [pdL, h1], by simp [pdL, h2], fun L w zs hz => ?_, hp a, h a (allR hc)⟩
      match zs, hz with
      | [z], hz => simp only [toAVL, VSL] at hz ⊢; exact ⟨h3 L w z hz.1, trivial⟩
      | [], hz => simp [toAVL, VSL] at hz
      | _ :: _ :: _, hz => simp [toAVL, VSL] at hz
    · cases hC
  · cases hC
theorem C2_ok {X : Cx} (hX : X.ok P) {f : FuncId} {fn : Func} (hf : P.funcs[f]? = some fn) (hb : fn.body = some (bodyOf fn)) (hr : (fn.name == "runtime.NumGoroutine") = false) {α β : Type} {d : Dc α} {e : Dc β} {cs : α → β → List Prop} {v : α → β → XV}
    (hd : DcOk d) (he : DcOk e) (hn : Nat.ble 2 fn.ntmps = true) (hp : ∀ a b, (v a b).pd = true) (h : ∀ a b, (∀ p ∈ cs a b, p) → ∃ sc, funC X fn sc [d.enc a, e.enc b] (v a b)) : CTok P f (C2 d e cs v) := ct_ok2 hX hf hb hr fun args cs' v' hC hc => by
  unfold C2 at hC
  split at hC
  · split at hC
    · rename_i p a q b hx hy
      simp only [Option.some.injEq, Prod.mk.injEq] at hC
      obtain ⟨rfl, rfl⟩ := hC
      obtain ⟨h1, h2, h3⟩ := hd _ p a hx (allL hc)
      obtain ⟨k1, k2, k3⟩ := he _ q b hy (allL (allR hc))
      refine ⟨[d.enc a, e.enc b], hn, by simp [pdL, h1, k1], by simp [pdL, h2, k2], fun L w zs hz => ?_, hp a b, h a b (allR (allR hc))⟩
      match zs, hz with
      | [z, z2], hz => simp only [toAVL, VSL] at hz ⊢; exact ⟨h3 L w z hz.1, k3 L w z2 hz.2.1, trivial⟩
      | [], hz => simp [toAVL, VSL] at hz
      | [_], hz => simp [toAVL, VSL] at hz
      | _ :: _ :: _ :: _, hz => simp [toAVL, VSL] at hz
    · cases hC
  · cases hC
theorem C3_ok {X : Cx} (hX : X.ok P) {f : FuncId} {fn : Func} (hf : P.funcs[f]? = some fn) (hb : fn.body = some (bodyOf fn)) (hr : (fn.name == "runtime.NumGoroutine") = false) {α β γ : Type} {d : Dc α} {e : Dc β} {g : Dc γ} {cs : α → β → γ → List Prop} {v : α → β → γ → XV}
    (hd : DcOk d) (he : DcOk e) (hg : DcOk g) (hn : Nat.ble 3 fn.ntmps = true) (hp : ∀ a b c, (v a b c).pd = true) (h : ∀ a b c, (∀ p ∈ cs a b c, p) → ∃ sc, funC X fn sc [d.enc a, e.enc b, g.enc c] (v a b c)) : CTok P f (C3 d e g cs v) := ct_ok2 hX hf hb hr fun args cs' v' hC hc => by
  unfold C3 at hC
  split at hC
  · split at hC
    · rename_i p a q b r c hx hy hz
      simp only [Option.some.injEq, Prod.mk.injEq] at hC
      obtain ⟨rfl, rfl⟩ := hC
      obtain ⟨h1, h2, h3⟩ := hd _ p a hx (allL hc)
      obtain ⟨k1, k2, k3⟩ := he _ q b hy (allL (allR hc))
      obtain ⟨m1, m2, m3⟩ := hg _ r c hz (allL (allR (allR hc)))
      refine ⟨[d.enc a, e.enc b, g.enc c], hn, by simp [pdL, h1, k1, m1], by simp [pdL, h2, k2, m2], fun L w zs hz => ?_, hp a b c, h a b c (allR (allR (allR hc)))⟩
      match zs, hz with
      | [z, z2, z3], hz => simp only [toAVL, VSL] at hz ⊢; exact ⟨h3 L w z hz.1, k3 L w z2 hz.2.1, m3 L w z3 hz.2.2.1, trivial⟩
      | [], hz => simp [toAVL, VSL] at hz
      | [_], hz => simp [toAVL, VSL] at hz
      | [_, _], hz => simp [toAVL, VSL] at hz
      | _ :: _ :: _ :: _ :: _, hz => simp [toAVL, VSL] at hz
    · cases hC
  · cases hC

def DcLOk {α : Type} (d : DcL α) : Prop := ∀ x cs a, d.dec x = some (cs, a) → (∀ p ∈ cs, p) → pdL x = true ∧ (∀ b, pdL (d.enc b) = true) ∧ toAVL x = toAVL (d.enc a)

/-- The same for a function whose first argument is the address of a variable of one's own. -/
theorem ht_ok2 {X : Cx} (hX : X.ok P) {f : FuncId} {fn : Func} (hf : P.funcs[f]? = some fn) (hb : fn.body = some (bodyOf fn)) (hr : (fn.name == "runtime.NumGoroutine") = false) {H : HT}
    (h : ∀ cells rest cs v o, H cells rest = some (cs, v, o) → (∀ p ∈ cs, p) → ∃ cells' rest', Nat.ble (rest'.length + 1) fn.ntmps = true ∧ pdL cells = true ∧ pdL cells' = true ∧ toAVL cells = toAVL cells' ∧ pdL rest = true ∧ pdL rest' = true ∧ (∀ L w zs, VSL L w (toAVL rest) zs → VSL L w (toAVL rest') zs) ∧ v.pd = true ∧
      (match o with | some c => pdL c = true ∧ ∃ sc, ∀ e ap, funH X fn sc e ap cells' rest' v c | none => ∃ sc, ∀ e ap, funH X fn sc e ap cells' rest' v cells')) : HTok P f H := by
  refine ⟨⟨fn, bodyOf fn, hf, hb, hr⟩, fun cells rest cs v o hH hc ρ g row bs hcells hrest => ?_⟩
  obtain ⟨cells', rest', h0, q1, q2, q3, q4, q5, q6, q7, q8⟩ := h cells rest cs v o hH hc
  have e1 := RVL.pd _ _ q1 hcells
  have e2 := RVL.pd _ _ q4 hrest
  subst e2
  -- by the run on the arguments told in other words
  classical
  let H' : HT := fun c r => if c = cells' ∧ r = rest' then some ([], v, o) else none
  have hH' : HTok P f H' := by
    refine ht_ok hX hf hb hr fun c r cs2 v2 o2 h2 _ => ?_
    simp only [H'] at h2
    split at h2
    · rename_i hcr
      obtain ⟨rfl, rfl⟩ := hcr
      simp only [Option.some.injEq, Prod.mk.injEq] at h2
      obtain ⟨-, rfl, rfl⟩ := h2
      cases o with
      | none => obtain ⟨sc, k⟩ := q8; exact ⟨h0, q2, q5, q7, q2, sc, k⟩
      | some c' => obtain ⟨k1, sc, k⟩ := q8; exact ⟨h0, q2, q5, q7, k1, sc, k⟩
    · cases h2
  obtain ⟨v', row', a1, a2, a3⟩ := hH'.2 cells' rest' [] v o (by simp [H']) (by simp) ρ g row (toAVL rest') (by rw [e1, q3]; exact pd_RVL ρ _ q2) (pd_RVL ρ _ q5)
  exact ⟨v', row', a1, a2, fun L hL => JF.weakArgs (a3 L hL) fun w xs hx => by
    cases xs with
    | nil => simp [VSL] at hx
    | cons x xs => simp only [VSL] at hx ⊢; exact ⟨hx.1, q6 L w xs hx.2⟩⟩
theorem H0_ok {X : Cx} (hX : X.ok P) {f : FuncId} {fn : Func} (hf : P.funcs[f]? = some fn) (hb : fn.body = some (bodyOf fn)) (hr : (fn.name == "runtime.NumGoroutine") = false) {α : Type} {d : DcL α} {cs : α → List Prop} {v : α → XV} {o : α → Option α}
    (hd : DcLOk d) (hn : Nat.ble 1 fn.ntmps = true) (hp : ∀ a, (v a).pd = true) (h : ∀ a, (∀ p ∈ cs a, p) → ∃ sc, ∀ e ap, funH X fn sc e ap (d.enc a) [] (v a) (d.enc ((o a).getD a))) : HTok P f (H0 d cs v o) := ht_ok2 hX hf hb hr fun cells rest cs' v' o' hH hc => by
  unfold H0 at hH
  split at hH
  · split at hH
    · rename_i p a hx
      simp only [Option.some.injEq, Prod.mk.injEq] at hH
      obtain ⟨rfl, rfl, rfl⟩ := hH
      obtain ⟨h1, h2, h3⟩ := hd _ p a hx (allL hc)
      refine ⟨d.enc a, [], hn, h1, h2 a, h3, rfl, rfl, fun _ _ _ h => h, hp a, ?_⟩
      have := h a (allR hc)
      cases hoa : o a with
      | none => rw [hoa] at this; exact this
      | some c => rw [hoa] at this; exact ⟨h2 c, this⟩
    · cases hH
  · cases hH
theorem H1_ok {X : Cx} (hX : X.ok P) {f : FuncId} {fn : Func} (hf : P.funcs[f]? = some fn) (hb : fn.body = some (bodyOf fn)) (hr : (fn.name == "runtime.NumGoroutine") = false) {α β : Type} {d : DcL α} {e : Dc β} {cs : α → β → List Prop} {v : α → β → XV} {o : α → β → Option α}
    (hd : DcLOk d) (he : DcOk e) (hn : Nat.ble 2 fn.ntmps = true) (hp : ∀ a b, (v a b).pd = true) (h : ∀ a b, (∀ p ∈ cs a b, p) → ∃ sc, ∀ t ap, funH X fn sc t ap (d.enc a) [e.enc b] (v a b) (d.enc ((o a b).getD a))) : HTok P f (H1 d e cs v o) := ht_ok2 hX hf hb hr fun cells rest cs' v' o' hH hc => by
  unfold H1 at hH
  split at hH
  · split at hH
    · rename_i p a q b hx hy
      simp only [Option.some.injEq, Prod.mk.injEq] at hH
      obtain ⟨rfl, rfl, rfl⟩ := hH
      obtain ⟨h1, h2, h3⟩ := hd _ p a hx (allL hc)
      obtain ⟨k1, k2, k3⟩ := he _ q b hy (allL (allR hc))
      refine ⟨d.enc a, [e.enc b], hn, h1, h2 a, h3, by simp [pdL, k1], by simp [pdL, k2], fun L w zs hz => ?_, hp a b, ?_⟩
      · match zs, hz with
        | [z], hz => simp only [toAVL, VSL] at hz ⊢; exact ⟨k3 L w z hz.1, trivial⟩
        | [], hz => simp [toAVL, VSL] at hz
        | _ :: _ :: _, hz => simp [toAVL, VSL] at hz
      · have := h a b (allR (allR hc))
        cases hoa : o a b with
        | none => rw [hoa] at this; exact this
        | some c => rw [hoa] at this; exact ⟨h2 c, this⟩
    · cases hH
  · cases hH
theorem nt_ok2 {X : Cx} (hX : X.ok P) {f : FuncId} {fn : Func} (hf : P.funcs[f]? = some fn) (hb : fn.body = some (bodyOf fn)) (hr : (fn.name == "runtime.NumGoroutine") = false) {T : TypeId} {M : NT}
    (h : ∀ args cs cells, M args = some (cs, cells) → (∀ p ∈ cs, p) → ∃ args', Nat.ble args'.length fn.ntmps = true ∧ pdL args = true ∧ pdL args' = true ∧ (∀ L w zs, VSL L w (toAVL args) zs → VSL L w (toAVL args') zs) ∧ pdL cells = true ∧ ∃ sc, funN X fn sc args' T cells) : NTok P f T M := by
  refine ⟨⟨fn, bodyOf fn, hf, hb, hr⟩, fun args cs cells hM hc ρ bs hargs => ?_⟩
  obtain ⟨args', h0, h1, h1', hw, h2, sc, h3⟩ := h args cs cells hM hc
  have hbs := RVL.pd _ _ h1 hargs
  subst hbs
  refine ⟨toAVL cells, pd_RVL ρ cells h2, fun L => ?_⟩
  rw [bleN, decide_eq_true_eq] at h0
  refine JF.weakArgs ((fun_ok hX hf hb (by rw [toAVL_length]; exact h0) (rel0 (pd_RVL noRho args' h1')) h3).conv ?_) (hw L)
  rintro b L1 w x ⟨ρ', S', t', xv, hR, hv, hq⟩ hrows hx
  unfold ptrIs at hq
  split at hq
  · rename_i id
    simp only [RV] at hv
    obtain ⟨g, hg, rfl⟩ := hv
    obtain ⟨k1, k2, k3, k4⟩ := row_out hR hrows hg hq h2
    refine ⟨.ptr g 0, _, ?_, k1, k2, g, k4, rfl, rfl⟩
    simpa [VS] using hx
  · exact hq.elim
theorem N2_ok {X : Cx} (hX : X.ok P) {f : FuncId} {fn : Func} (hf : P.funcs[f]? = some fn) (hb : fn.body = some (bodyOf fn)) (hr : (fn.name == "runtime.NumGoroutine") = false) {T : TypeId} {α β : Type} {d : Dc α} {e : Dc β} {cs : α → β → List Prop} {c : α → β → List XV}
    (hd : DcOk d) (he : DcOk e) (hn : Nat.ble 2 fn.ntmps = true) (hp : ∀ a b, pdL (c a b) = true) (h : ∀ a b, (∀ p ∈ cs a b, p) → ∃ sc, funN X fn sc [d.enc a, e.enc b] T (c a b)) : NTok P f T (N2 d e cs c) := nt_ok2 hX hf hb hr fun args cs' v' hC hc => by
  unfold N2 at hC
  split at hC
  · split at hC
    · rename_i p a q b hx hy
      simp only [Option.some.injEq, Prod.mk.injEq] at hC
      obtain ⟨rfl, rfl⟩ := hC
      obtain ⟨h1, h2, h3⟩ := hd _ p a hx (allL hc)
      obtain ⟨k1, k2, k3⟩ := he _ q b hy (allL (allR hc))
      refine ⟨[d.enc a, e.enc b], hn, by simp [pdL, h1, k1], by simp [pdL, h2, k2], fun L w zs hz => ?_, hp a b, h a b (allR (allR hc))⟩
      match zs, hz with
      | [z, z2], hz => simp only [toAVL, VSL] at hz ⊢; exact ⟨h3 L w z hz.1, k3 L w z2 hz.2.1, trivial⟩
      | [], hz => simp [toAVL, VSL] at hz
      | [_], hz => simp [toAVL, VSL] at hz
      | _ :: _ :: _ :: _, hz => simp [toAVL, VSL] at hz
    · cases hC
  · cases hC
end
end Go.Proofs.YtljgkjkdmoejfaaAv
