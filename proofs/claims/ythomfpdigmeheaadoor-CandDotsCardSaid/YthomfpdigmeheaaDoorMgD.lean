/- Own texts, put together: AvXl; AvLib; Tab; Shelf; NmLib; AvRow; RsRowG; AvCard; AvArr; NmRow; NmA; NmB; AvXs; NmC; NmD. -/
import Derived.Test.YthomfpdigmeheaaDoorMgC
import Derived.Below
import Derived.BigQuiet
import Derived.Test.YthomfpdigmeheaaDoorProg
import Derived.Shelf.Small.Wraps
import Derived.Shelf.Utf8.RuneCount
import Derived.Shelf.Strings.Search1
import Derived.Shelf.Strings.Search2
import Derived.Shelf.Strings.Search3
import Derived.Shelf.Strings.Count
import Derived.Shelf.LaysM
import Derived.Shelf.Strings.Shaped
import Derived.Shelf.Strings.LastIndex
import Derived.Shelf.Strings.Prefix
import Derived.Shelf.Strings.Split
import Derived.Shelf.Strings.Fold
import Derived.Shelf.Unicode.Decode
import Derived.Shelf.Strings.RuneCount
import Derived.Shelf.Unicode.DecodeSlow
import Derived.Shelf.Unicode.DecodeAny
import Derived.Shelf.Unicode.ValidAny
import Derived.Shelf.Unicode.CaseLookup
import Derived.Shelf.Unicode.CaseConvert
import Derived.OpenShut
import Derived.SliceStrings
import Derived.ChangeSlices
import Derived.SizedLaws
import Derived.Carry
import Derived.Lib.LaidTab
import Derived.Shelf.Vars
import Derived.WideKeyArr2
import Derived.Lay
import Derived.Deep.DeepHandedRow
import Derived.Test.YthomfpdigmeheaaDoorRows
import Derived.Lib.LaidU8T
set_option linter.unusedVariables false
set_option linter.unusedSimpArgs false
namespace Go.Proofs.YthomfpdigmeheaaDoorAv
open Go Go.RowKit
/-- What a function leaves, told in other words. -/
theorem JF.conv {P : Program} {f : FuncId} {args : List AV} {L : GH} {R R2 : AV → GH → Prop} (h : JF P f args L R)
    (k : ∀ v L1 w x, R v L1 → (∀ g r, L1 g = some r → RowR L1 w g r) → VS L1 w v x → ∃ v2 L2, VS L2 w v2 x ∧ (∀ g r, L2 g = some r → RowR L2 w g r) ∧ (∀ b, L1 b = none → L2 b = none) ∧ R2 v2 L2) : JF P f args L R2 :=
  fun w xs hg hv hw => (h w xs hg hv hw).mono fun e w' ⟨v, x, L1, he, hv, hrows, hx, hr⟩ => by
    obtain ⟨v2, L2, h1, h2, h3, h4⟩ := k v L1 w' x hr hrows hv
    exact ⟨v2, x, L2, he, h1, h2, hx.trans (Ext.drop w' h3), h4⟩
section
variable {P : Program} {ρ : Rho} {F : Fr} {S : XS} {t : TM} {L : GH} {w : World}
mutual
theorem RV.pd {ρ : Rho} : ∀ (x : XV) (b : AV), x.pd = true → RV ρ x b → b = toAV x
  | .v a, b, _, k => by simpa [RV, toAV] using k
  | .fz n sz f, b, _, k => by simpa [RV] using k
  | .agg cs, b, h, k => by
    simp only [XV.pd] at h
    simp only [RV] at k
    obtain ⟨bs, rfl, hr⟩ := k
    rw [toAV, RVL.pd cs bs h hr]
  | .tup cs, b, h, k => by
    simp only [XV.pd] at h
    simp only [RV] at k
    obtain ⟨bs, rfl, hr⟩ := k
    rw [toAV, RVL.pd cs bs h hr]
  | .sl .., b, h, _ => by simp [XV.pd] at h
  | .ptr .., b, h, _ => by simp [XV.pd] at h
  | .fp .., b, h, _ => by simp [XV.pd] at h
  | .fsel .., b, h, _ => by simp [XV.pd] at h
  | .gd .., b, h, _ => by simp [XV.pd] at h
  | .top, b, h, _ => by simp [XV.pd] at h
theorem RVL.pd {ρ : Rho} : ∀ (cs : List XV) (bs : List AV), pdL cs = true → RVL ρ cs bs → bs = toAVL cs
  | [], [], _, _ => rfl
  | c :: cs, b :: bs, h, k => by
    simp only [pdL, Bool.and_eq_true] at h
    simp only [RVL] at k
    rw [toAVL, ← RV.pd c b h.1 k.1, ← RVL.pd cs bs h.2 k.2]
  | [], _ :: _, _, k => by simp [RVL] at k
  | _ :: _, [], _, k => by simp [RVL] at k
end
mutual
theorem pd_RV (ρ : Rho) : ∀ (x : XV), x.pd = true → RV ρ x (toAV x)
  | .v a, _ => by simp [RV, toAV]
  | .fz n sz f, _ => by simp [RV]
  | .agg cs, h => by
    simp only [XV.pd] at h
    simp only [RV, toAV]
    exact ⟨_, rfl, pd_RVL ρ cs h⟩
  | .tup cs, h => by
    simp only [XV.pd] at h
    simp only [RV, toAV]
    exact ⟨_, rfl, pd_RVL ρ cs h⟩
  | .sl .., h => by simp [XV.pd] at h
  | .ptr .., h => by simp [XV.pd] at h
  | .fp .., h => by simp [XV.pd] at h
  | .fsel .., h => by simp [XV.pd] at h
  | .gd .., h => by simp [XV.pd] at h
  | .top, h => by simp [XV.pd] at h
theorem pd_RVL (ρ : Rho) : ∀ (cs : List XV), pdL cs = true → RVL ρ cs (toAVL cs)
  | [], _ => by simp [RVL, toAVL]
  | c :: cs, h => by
    simp only [pdL, Bool.and_eq_true] at h
    simp only [RVL, toAVL]
    exact ⟨pd_RV ρ c h.1, pd_RVL ρ cs h.2⟩
end
/-- L2 tells no block that is one of the state's own. -/
def Off (ρ : Rho) (S : XS) (L2 : GH) : Prop := ∀ id g e ap n sz f, findR S.h id = some (.vec e ap n sz f) → ρ id = some (some g) → L2 g = none
theorem VS_fz0 {L : GH} {w : World} (f : Nat → List AV) (sz : Nat) : VS L w (.fz 0 (vecOf 0 sz f)) (.slice none 0 0) := by
  simp only [VS]
  exact ⟨none, 0, [], rfl, Nat.le_refl _, .inl rfl, by simp [vecOf, VSL]⟩
mutual
/-- What a result is, is what it is told to be. -/
theorem RX_VS (hR : Rel F ρ S t L) (hrows : ∀ g r, L g = some r → RowR L w g r) {L2 : GH} (hd : ∀ b, L b = none → L2 b = none) (ho : Off ρ S L2) : ∀ (y : XV) (x : XV) (b : AV) (z : Value), y.pd = true → RX S x y → RV ρ x b → VS L w b z → VS L2 w (toAV y) z
  | .v a, x, b, z, hp, h, k, hz => by
    have hx : x = .v a := by
      unfold RX at h
      split at h <;> first | exact VM_eq h | (rename_i heq; cases heq) | (rename_i heq _; cases heq)
    subst hx
    simp only [RV] at k
    subst k
    exact VS.ext (Ext.drop w hd) _ _ hz
  | .fz n' sz' g, x, b, z, hp, h, k, hz => by
    unfold RX at h
    split at h
    · rename_i id sz n n2 sz2 g2 heq
      injection heq with q1 q2 q3
      subst q1 q2 q3
      split at h
      · rename_i e m s f hf
        obtain ⟨⟨rfl, rfl⟩, rfl, rfl, hfg⟩ := h
        have hvec : vecOf m s (fun i => toAVL (f i)) = vecOf m s fun i => toAVL (g i) := vecOf_congr fun j hj => by rw [hfg j hj]
        simp only [RV] at k
        rcases k with ⟨g0, hg, rfl⟩ | ⟨hg, rfl, -, rfl⟩
        · obtain ⟨row, hL, hrow⟩ := (hR.rw id _ hf).some_g hg
          simp only [RRow] at hrow
          subst hrow
          have hoff := ho id g0 _ _ _ _ _ hf hg
          simp only [toAV]
          rw [← hvec]
          -- as a slice that is only read
          simp only [VS, Nat.zero_mul] at hz ⊢
          obtain ⟨a, cap, rfl, hn, hc⟩ := hz
          obtain ⟨c, fr, vs, hh, _, _, hle, hvs, hv, h1⟩ := hrows g0 _ hL
          refine ⟨a, cap, vs, rfl, hn, ?_, VSL.ext (Ext.drop w hd) _ _ hv⟩
          rcases hc with hc | ⟨rfl, _⟩
          · left
            have : m = 0 := by omega
            have hl := hv.length
            simp only [vecOf_length] at hl
            rw [this, Nat.zero_mul] at hl
            exact List.length_eq_zero_iff.1 hl.symm
          · refine .inr ⟨_, rfl, hoff, h1, fun i v hi => ?_⟩
            rw [add_plain, Nat.zero_add]
            rw [hvs, List.getElem?_take] at hi
            split at hi
            · simp only [World.cell?, hh]
              simpa using hi
            · cases hi
        · simp only [VS] at hz
          subst hz
          exact VS_fz0 _ _
      · exact h.elim
    · rename_i n2 sz2 g2 heq
      injection heq with q1 q2 q3
      subst q1 q2 q3
      subst h
      simp only [RV] at k
      subst k
      simp only [VS] at hz
      subst hz
      exact VS_fz0 _ _
    · rename_i n sz f n2 sz2 g2 heq
      injection heq with q1 q2 q3
      subst q1 q2 q3
      obtain ⟨rfl, rfl, hfg⟩ := h
      simp only [RV, toAV] at k
      subst k
      simp only [toAV]
      rw [← vecOf_congr (g := fun i => toAVL (f i)) fun j hj => by rw [hfg j hj]]
      exact VS.ext (Ext.drop w hd) _ _ hz
    · rename_i heq; cases heq
    · rename_i heq; cases heq
    · have := VM_eq h
      subst this
      have := RV.pd _ _ hp k
      subst this
      exact VS.ext (Ext.drop w hd) _ _ hz
  | .agg ds, x, b, z, hp, h, k, hz => by
    unfold RX at h
    split at h
    · rename_i heq; cases heq
    · rename_i heq; cases heq
    · rename_i heq; cases heq
    · rename_i cs ds2 heq
      injection heq with heq
      subst heq
      simp only [RV] at k
      obtain ⟨bs, rfl, hr⟩ := k
      simp only [VS] at hz
      obtain ⟨vs, rfl, hv⟩ := hz
      simp only [toAV, VS]
      simp only [XV.pd] at hp
      exact ⟨vs, rfl, RXL_VS hR hrows hd ho ds _ _ _ hp h hr hv⟩
    · rename_i heq; cases heq
    · have := VM_eq h
      subst this
      have := RV.pd _ _ hp k
      subst this
      exact VS.ext (Ext.drop w hd) _ _ hz
  | .tup ds, x, b, z, hp, h, k, hz => by
    unfold RX at h
    split at h
    · rename_i heq; cases heq
    · rename_i heq; cases heq
    · rename_i heq; cases heq
    · rename_i heq; cases heq
    · rename_i cs ds2 heq
      injection heq with heq
      subst heq
      simp only [RV] at k
      obtain ⟨bs, rfl, hr⟩ := k
      simp only [VS] at hz
      obtain ⟨vs, rfl, hv⟩ := hz
      simp only [toAV, VS]
      simp only [XV.pd] at hp
      exact ⟨vs, rfl, RXL_VS hR hrows hd ho ds _ _ _ hp h hr hv⟩
    · have := VM_eq h
      subst this
      have := RV.pd _ _ hp k
      subst this
      exact VS.ext (Ext.drop w hd) _ _ hz
  | .sl .., x, b, z, hp, _, _, _ => by simp [XV.pd] at hp
  | .ptr .., x, b, z, hp, _, _, _ => by simp [XV.pd] at hp
  | .fp .., x, b, z, hp, _, _, _ => by simp [XV.pd] at hp
  | .fsel .., x, b, z, hp, _, _, _ => by simp [XV.pd] at hp
  | .gd .., x, b, z, hp, _, _, _ => by simp [XV.pd] at hp
  | .top, x, b, z, hp, _, _, _ => by simp [XV.pd] at hp
theorem RXL_VS (hR : Rel F ρ S t L) (hrows : ∀ g r, L g = some r → RowR L w g r) {L2 : GH} (hd : ∀ b, L b = none → L2 b = none) (ho : Off ρ S L2) : ∀ (ys : List XV) (xs : List XV) (bs : List AV) (zs : List Value), pdL ys = true → RXL S xs ys → RVL ρ xs bs → VSL L w bs zs → VSL L2 w (toAVL ys) zs
  | [], [], [], [], _, _, _, _ => by simp [toAVL, VSL]
  | y :: ys, x :: xs, b :: bs, z :: zs, hp, h, k, hz => by
    simp only [pdL, Bool.and_eq_true] at hp
    simp only [RXL] at h
    simp only [RVL] at k
    simp only [VSL] at hz
    simp only [toAVL, VSL]
    exact ⟨RX_VS hR hrows hd ho y x b z hp.1 h.1 k.1 hz.1, RXL_VS hR hrows hd ho ys xs bs zs hp.2 h.2 k.2 hz.2⟩
  | [], _ :: _, _, _, _, h, _, _ => by simp [RXL] at h
  | _ :: _, [], _, _, _, h, _, _ => by simp [RXL] at h
  | [], [], _ :: _, _, _, _, k, _ => by simp [RVL] at k
  | _ :: _, _ :: _, [], _, _, _, k, _ => by simp [RVL] at k
  | [], [], [], _ :: _, _, _, _, hz => by simp [VSL] at hz
  | _ :: _, _ :: _, _ :: _, [], _, _, _, hz => by simp [VSL] at hz
end
theorem xres_ok {X : Cx} (hX : X.ok P) (hR : Rel F ρ S t L) : ∀ {rs : List ResultVar} {vs : List XV}, xress X S rs = some vs → ∃ bs, outsC P t L rs bs ∧ RVL ρ vs bs
  | [], vs, h => by
    simp only [xress, Option.some.injEq] at h
    subst h
    exact ⟨[], trivial, by simp [RVL]⟩
  | r :: rs, vs, h => by
    simp only [xress] at h
    split at h
    · rename_i v vs' h1 h2
      obtain rfl := Option.some.inj h
      obtain ⟨bs, k1, k2⟩ := xres_ok hX hR h2
      have : ∃ b, outC P t L r b ∧ RV ρ v b := by
        cases r with
        | tmp s =>
          simp only [xres, Option.some.injEq] at h1
          subst h1
          exact ⟨t s, rfl, hR.sl s⟩
        | cell c T =>
          simp only [xres] at h1
          split at h1
          · rename_i id o a z m b hl ha hi
            have hc := hR.sl c
            rw [hl] at hc
            simp only [RV] at hc
            obtain ⟨g, hg, hc⟩ := hc
            obtain ⟨u, hu, hag⟩ : ∃ u, P.underlying T = some u ∧ aggT u = a := by
              unfold aggB at ha
              split at ha
              · rename_i u hu; exact ⟨u, okU_fnd hX.U hu, Option.some.inj ha⟩
              · cases ha
            have hI := okI_fnd hX.I hi
            split at h1
            · rename_i e ap cs hf
              obtain ⟨row, hL, hrow⟩ := (hR.rw id _ hf).some_g hg
              simp only [RRow] at hrow
              obtain ⟨-, -, hrow⟩ := hrow
              have hlen := hrow.length
              split at h1
              · split at h1
                · rename_i hle
                  obtain rfl := Option.some.inj h1
                  rw [bleN, decide_eq_true_eq, xlen_eq] at hle
                  have hm : ((row.cs.drop o).take m).length = m := by rw [List.length_take, List.length_drop]; omega
                  refine ⟨.agg ((row.cs.drop o).take m), ⟨g, o, row, u, by simpa using hc, hL, hu, .inl ⟨hag, z, b, (row.cs.drop o).take m, by rw [hm]; exact hI, by rw [hm], by rw [hm]; omega, rfl⟩⟩, ?_⟩
                  simp only [RV]
                  exact ⟨_, rfl, by rw [xtake_eq, xdrop_eq]; exact (hrow.drop o).take m⟩
                · cases h1
              · split at h1
                · rename_i hlt
                  obtain rfl := Option.some.inj h1
                  obtain ⟨b', hb, hv⟩ := hrow.getD' o hlt
                  exact ⟨b', ⟨g, o, row, u, by simpa using hc, hL, hu, .inr ⟨hag, hb⟩⟩, hv⟩
                · cases h1
            · cases h1
          · cases h1
      obtain ⟨b, e1, e2⟩ := this
      exact ⟨b :: bs, ⟨e1, k1⟩, by simp only [RVL]; exact ⟨e2, k2⟩⟩
    · cases h
theorem xout_ok : ∀ {vs : List XV} {bs : List AV}, RVL ρ vs bs → RV ρ (xout vs) (out1 bs)
  | [], [], h => by simp only [xout, out1, RV]; exact ⟨_, rfl, h⟩
  | [v], [b], h => by simp only [RVL] at h; exact h.1
  | v :: v2 :: vs, b :: b2 :: bs, h => by simp only [xout, out1, RV]; exact ⟨_, rfl, h⟩
  | [v], b :: b2 :: bs, h => by simp [RVL] at h
  | v :: v2 :: vs, [b], h => by simp [RVL] at h
  | [], _ :: _, h => by simp [RVL] at h
  | _ :: _, [], h => by simp [RVL] at h
/-- A function, run. -/
theorem fun_ok {X : Cx} (hX : X.ok P) {f : FuncId} {fn : Func} {c : Code} (hf : P.funcs[f]? = some fn) (hb : fn.body = some c) {bs : List AV} (hn : bs.length ≤ fn.ntmps) {sc : Sc} {R : XV → XS → Prop} (hR : Rel F ρ S (tm0 bs) L) (h : xwp X fn.ntmps c sc S (retX X fn.results.toList R)) :
    JF P f bs L fun v L1 => ∃ ρ' S' t' xv, Rel F ρ' S' t' L1 ∧ RV ρ' xv v ∧ R xv S' := by
  refine JF.bodyC hf hb hn ((xwp_ok hX c sc S _ ρ _ L h hR).mono ?_)
  rintro e t1 L1 ⟨ρ1, S1, hR1, hq⟩
  have fin : (match xress X S1 fn.results.toList with | some vs => R (xout vs) S1.pl | none => False) → ∃ vs L', outsC P t1 L1 fn.results.toList vs ∧ (∀ g r, L' g = some r → L1 g = some r) ∧ ∃ ρ' S' t' xv, Rel F ρ' S' t' L' ∧ RV ρ' xv (out1 vs) ∧ R xv S' := by
    intro hq
    split at hq
    · rename_i vs hvs
      obtain ⟨bs, k1, k2⟩ := xres_ok hX hR1 hvs
      exact ⟨bs, L1, k1, fun _ _ h => h, ρ1, S1.pl, t1, xout vs, hR1.pl, xout_ok k2, hq⟩
    · exact hq.elim
  cases e with
  | normal => exact fin hq
  | ret => exact fin hq
  | _ => exact hq.elim
theorem look_slots {ρ : Rho} : ∀ {args : List XV} {bs : List AV} (k : Nat), RVL ρ args bs → ∀ i, RV ρ (look (xslots k args) i) (if k ≤ i then bs.getD (i - k) .top else .top) ∨ look (xslots k args) i = .top
  | [], [], k, _, i => .inr rfl
  | x :: args, b :: bs, k, h, i => by
    simp only [RVL] at h
    simp only [xslots]
    rw [look_put]
    by_cases hi : i = k
    · rw [if_pos hi, if_pos (by omega), hi]
      left
      simpa using h.1
    · rw [if_neg hi]
      rcases look_slots (k + 1) h.2 i with h1 | h1
      · by_cases hk : k + 1 ≤ i
        · rw [if_pos hk] at h1
          left
          rw [if_pos (by omega), show i - k = (i - (k + 1)) + 1 by omega]
          simpa using h1
        · rw [if_neg hk] at h1
          left
          rw [if_neg (by omega)]
          exact h1
      · exact .inr h1
  | [], _ :: _, _, h, _ => by simp [RVL] at h
  | _ :: _, [], _, h, _ => by simp [RVL] at h
def noRho : Rho := fun _ => none
theorem rel0 {args : List XV} {bs : List AV} (h : RVL noRho args bs) : Rel ⟨L, 0, []⟩ noRho ⟨xslots 0 args, [], 0, false, []⟩ (tm0 bs) L := by
  refine ⟨fun i => ?_, fun id r h => by simp [findR] at h, fun id _ _ h => by simp [findR] at h, fun _ _ => rfl, fun b r h => ⟨h, fun id hi => by simp [findR] at hi⟩, fun h => (by cases h), by simp [RVL]⟩
  rcases look_slots 0 h i with h1 | h1
  · simpa [tm0] using h1
  · show RV _ (look (xslots 0 args) i) _
    rw [h1]; simp [RV]
theorem off_F (hR : Rel F ρ S t L) : Off ρ S F.F := by
  intro id g e ap n sz f hf hg
  cases hF : F.F g with
  | none => rfl
  | some r => exact absurd hg ((hR.fr g r hF).2 id (by rw [hf]; rfl))
theorem dom_F (hR : Rel F ρ S t L) : ∀ b, L b = none → F.F b = none := by
  intro b hb
  cases hF : F.F b with
  | none => rfl
  | some r => rw [(hR.fr b r hF).1] at hb; cases hb
theorem rows_F (hR : Rel F ρ S t L) (hrows : ∀ g r, L g = some r → RowR L w g r) : ∀ g r, F.F g = some r → RowR F.F w g r := fun g r hg =>
  (hrows g r (hR.fr g r hg).1).ext (Ext.drop w (dom_F hR)) rfl
/-- A variable of the state's own is handed out, beside what is another's. -/
theorem row_out (hR : Rel F ρ S t L) (hrows : ∀ g r, L g = some r → RowR L w g r) {id g : Nat} {T : TypeId} {ap : Bool} {cells : List XV} (hg : ρ id = some (some g)) (h : rowIs S id T ap cells) (hp : pdL cells = true) :
    (∀ b r, upd F.F g ⟨T, ap, toAVL cells⟩ b = some r → RowR (upd F.F g ⟨T, ap, toAVL cells⟩) w b r) ∧ (∀ b, L b = none → upd F.F g ⟨T, ap, toAVL cells⟩ b = none) ∧ Off ρ S (upd F.F g ⟨T, ap, toAVL cells⟩) ∧ F.F g = none := by
  unfold rowIs at h
  split at h
  · rename_i e ap' ds hf
    obtain ⟨⟨rfl, rfl⟩, h⟩ := h
    obtain ⟨row, hL, hrow⟩ := (hR.rw id _ hf).some_g hg
    simp only [RRow] at hrow
    obtain ⟨q1, q2, q3⟩ := hrow
    have hFg : F.F g = none := by
      cases hF : F.F g with
      | none => rfl
      | some r => exact absurd hg ((hR.fr g r hF).2 id (by rw [hf]; rfl))
    have hd : ∀ b, L b = none → upd F.F g ⟨e, ap', toAVL cells⟩ b = none := by
      intro b hb
      rw [upd_ne]
      · exact dom_F hR b hb
      · rintro rfl; rw [hL] at hb; cases hb
    have ho : Off ρ S (upd F.F g ⟨e, ap', toAVL cells⟩) := by
      intro id' g' e' ap2 n sz f hf' hg'
      rw [upd_ne]
      · exact off_F hR id' g' _ _ _ _ _ hf' hg'
      · rintro rfl
        have := hR.inj id' id _ (by rw [hf']; rfl) (by rw [hf]; rfl) hg' hg
        subst this
        rw [hf] at hf'; cases hf'
    refine ⟨fun b r hb => ?_, hd, ho, hFg⟩
    by_cases hbg : b = g
    · subst hbg
      rw [upd_same] at hb
      obtain rfl := Option.some.inj hb
      obtain ⟨c, fr, vs, hh, ha, hfz, hle, hvs, hv, h1⟩ := (hrows b row hL).c (by unfold Row.isc; rw [q2]; trivial)
      have hv2 := RXL_VS hR hrows hd ho cells ds row.cs vs hp h q3 hv
      have hlen : (toAVL cells).length = row.cs.length := by rw [hv2.length, ← hv.length]
      refine ⟨c, fr, vs, by rw [← q1]; exact hh, fun h => ha (by rw [q2]; exact h), hfz, by rw [hlen]; exact hle, by rw [hlen]; exact hvs, hv2, h1⟩
    · rw [upd_ne _ _ _ _ hbg] at hb
      exact (hrows b r (hR.fr b r hb).1).ext (Ext.drop w hd) rfl
  · exact h.elim
/-- A contract out of a symbolic run. -/
theorem ct_ok {X : Cx} (hX : X.ok P) {f : FuncId} {fn : Func} (hf : P.funcs[f]? = some fn) (hb : fn.body = some (bodyOf fn)) (hr : (fn.name == "runtime.NumGoroutine") = false) {C : CT}
    (h : ∀ args cs v, C args = some (cs, v) → (∀ p ∈ cs, p) → Nat.ble args.length fn.ntmps = true ∧ pdL args = true ∧ v.pd = true ∧ ∃ sc, funC X fn sc args v) : CTok P f C := by
  refine ⟨⟨fn, bodyOf fn, hf, hb, hr⟩, fun args cs v hC hc ρ bs hargs => ?_⟩
  obtain ⟨h0, h1, h2, sc, h3⟩ := h args cs v hC hc
  have hbs := RVL.pd _ _ h1 hargs
  subst hbs
  refine ⟨toAV v, pd_RV ρ v h2, fun L => ?_⟩
  rw [bleN, decide_eq_true_eq] at h0
  refine (fun_ok hX hf hb (by rw [toAVL_length]; exact h0) (rel0 (pd_RVL noRho args h1)) h3).conv ?_
  rintro b L1 w x ⟨ρ', S', t', xv, hR, hv, hq⟩ hrows hx
  exact ⟨toAV v, L, RX_VS hR hrows (dom_F hR) (off_F hR) v xv b x h2 hq hv hx, rows_F hR hrows, dom_F hR, rfl, rfl⟩
theorem ht_ok {X : Cx} (hX : X.ok P) {f : FuncId} {fn : Func} (hf : P.funcs[f]? = some fn) (hb : fn.body = some (bodyOf fn)) (hr : (fn.name == "runtime.NumGoroutine") = false) {H : HT}
    (h : ∀ cells rest cs v o, H cells rest = some (cs, v, o) → (∀ p ∈ cs, p) → Nat.ble (rest.length + 1) fn.ntmps = true ∧ pdL cells = true ∧ pdL rest = true ∧ v.pd = true ∧ pdL (o.getD cells) = true ∧ ∃ sc, ∀ e ap, funH X fn sc e ap cells rest v (o.getD cells)) : HTok P f H := by
  refine ⟨⟨fn, bodyOf fn, hf, hb, hr⟩, fun cells rest cs v o hH hc ρ g row bs rap hap hcells hrest => ?_⟩
  obtain ⟨re, rap', rcs⟩ := row
  simp only at hap
  subst hap
  obtain ⟨h0, h1, h2, h3, h4, sc, h6⟩ := h cells rest cs v o hH hc
  have hbs := RVL.pd _ _ h2 hrest
  have hcs := RVL.pd _ _ h1 hcells
  subst hbs
  rw [bleN, decide_eq_true_eq] at h0
  refine ⟨toAV v, ⟨re, rap, toAVL (o.getD cells)⟩, pd_RV ρ v h3, ?_, fun L hL => ?_⟩
  · cases o with
    | none => simp only [Option.getD_none]; rw [← hcs]
    | some cells' => exact ⟨rfl, rfl, pd_RVL ρ _ h4⟩
  · have hR0 : Rel ⟨del L g, g, []⟩ (fun i => if i = 0 then some (some g) else none) ⟨(0, .ptr 0 0 0 0) :: xslots 1 rest, [(0, .one re rap cells)], 1, true, []⟩ (tm0 (.ptr g 0 :: toAVL rest)) L := by
      refine ⟨fun i => ?_, fun id r hfr => ?_, fun i j g' hi hj _ _ => ?_, fun id hid => ?_, fun b r hb => ?_, fun _ => ⟨by simp, by simp, _, _, _, rfl⟩, by simp [RVL]⟩
      · show RV _ (look ((0, .ptr 0 0 0 0) :: xslots 1 rest) i) _
        rw [look_put]
        by_cases hi : i = 0
        · rw [if_pos hi, hi]
          simp only [RV]
          exact ⟨g, by simp, by simp [tm0]⟩
        · rw [if_neg hi]
          rcases look_slots 1 (pd_RVL (fun i => if i = 0 then some (some g) else none) rest h2) i with k | k
          · rw [if_pos (by omega)] at k
            have : tm0 (.ptr g 0 :: toAVL rest) i = (toAVL rest).getD (i - 1) .top := by
              obtain ⟨j, rfl⟩ : ∃ j, i = j + 1 := ⟨i - 1, by omega⟩
              simp [tm0]
            rw [this]; exact k
          · rw [k]; simp [RV]
      · rw [findR_put] at hfr
        by_cases hid : id = 0
        · rw [if_pos hid] at hfr
          obtain rfl := Option.some.inj hfr
          subst hid
          refine .inl ⟨g, _, by simp, hL, ?_⟩
          simp only [RRow]
          refine ⟨trivial, trivial, ?_⟩
          simp only at hcs
          rw [hcs]
          exact pd_RVL _ cells h1
        · rw [if_neg hid] at hfr; simp [findR] at hfr
      · rw [findR_put] at hi hj
        have a1 : i = 0 := by
          by_cases h : i = 0
          · exact h
          · rw [if_neg h] at hi; simp [findR] at hi
        have a2 : j = 0 := by
          by_cases h : j = 0
          · exact h
          · rw [if_neg h] at hj; simp [findR] at hj
        rw [a1, a2]
      · simp only at hid
        rw [if_neg (by omega)]
      · simp only [del] at hb
        split at hb
        · cases hb
        · rename_i hne
          refine ⟨hb, fun id hid => ?_⟩
          by_cases h : id = 0
          · rw [if_pos h]
            intro h2
            exact hne (Option.some.inj (Option.some.inj h2)).symm
          · rw [if_neg h]; simp
    refine (fun_ok hX hf hb (by simp only [List.length_cons, toAVL_length]; exact h0) hR0 (h6 re rap)).conv ?_
    rintro b L1 w x ⟨ρ', S', t', xv, hR, hv, hq⟩ hrows hx
    split at hq
    · rename_i hpn
      obtain ⟨hq, hrow⟩ := hq
      obtain ⟨p1, -, -⟩ := hR.pin hpn
      obtain ⟨k1, k2, k3, k4⟩ := row_out hR hrows p1 hrow h4
      have e1 : upd (del L g) g ⟨re, rap, toAVL (o.getD cells)⟩ = upd L g ⟨re, rap, toAVL (o.getD cells)⟩ := by
        funext b'
        simp only [upd, del]
        split <;> rfl
      rw [← e1]
      exact ⟨toAV v, _, RX_VS hR hrows k2 k3 v xv b x h3 hq hv hx, k1, k2, rfl, rfl⟩
    · exact hq.elim
theorem nt_ok {X : Cx} (hX : X.ok P) {f : FuncId} {fn : Func} (hf : P.funcs[f]? = some fn) (hb : fn.body = some (bodyOf fn)) (hr : (fn.name == "runtime.NumGoroutine") = false) {T : TypeId} {M : NT}
    (h : ∀ args cs cells, M args = some (cs, cells) → (∀ p ∈ cs, p) → Nat.ble args.length fn.ntmps = true ∧ pdL args = true ∧ pdL cells = true ∧ ∃ sc, funN X fn sc args T cells) : NTok P f T M := by
  refine ⟨⟨fn, bodyOf fn, hf, hb, hr⟩, fun args cs cells hM hc ρ bs hargs => ?_⟩
  obtain ⟨h0, h1, h2, sc, h3⟩ := h args cs cells hM hc
  have hbs := RVL.pd _ _ h1 hargs
  subst hbs
  refine ⟨toAVL cells, pd_RVL ρ cells h2, fun L => ?_⟩
  rw [bleN, decide_eq_true_eq] at h0
  refine (fun_ok hX hf hb (by rw [toAVL_length]; exact h0) (rel0 (pd_RVL noRho args h1)) h3).conv ?_
  rintro b L1 w x ⟨ρ', S', t', xv, hR, hv, hq⟩ hrows hx
  unfold ptrIs at hq
  split at hq
  · rename_i id
    simp only [RV] at hv
    obtain ⟨g, hg, rfl⟩ := hv
    obtain ⟨k1, k2, k3, k4⟩ := row_out hR hrows hg hq h2
    refine ⟨.ptr g 0, _, ?_, k1, k2, g, k4, rfl, rfl⟩
    simpa [VS] using hx
  · exact hq.elim
/-- One contract more. -/
theorem Cx.ok.addC {X : Cx} (hX : X.ok P) {f : FuncId} {C : CT} (h : CTok P f C) : ({ X with C := (f, C) :: X.C } : Cx).ok P :=
  ⟨hX.U, hX.I, fun g D hg => by
    simp only [fnd, beqN] at hg
    by_cases e : g = f
    · rw [decide_eq_true e, cond_true] at hg
      obtain rfl := Option.some.inj hg
      rw [e]; exact h
    · rw [decide_eq_false e, cond_false] at hg
      exact hX.C g D hg, hX.H, hX.N, hX.M, hX.L, hX.E⟩
theorem Cx.ok.addH {X : Cx} (hX : X.ok P) {f : FuncId} {C : HT} (h : HTok P f C) : ({ X with H := (f, C) :: X.H } : Cx).ok P :=
  ⟨hX.U, hX.I, hX.C, fun g D hg => by
    simp only [fnd, beqN] at hg
    by_cases e : g = f
    · rw [decide_eq_true e, cond_true] at hg
      obtain rfl := Option.some.inj hg
      rw [e]; exact h
    · rw [decide_eq_false e, cond_false] at hg
      exact hX.H g D hg, hX.N, hX.M, hX.L, hX.E⟩
theorem Cx.ok.addN {X : Cx} (hX : X.ok P) {f : FuncId} {T : TypeId} {C : NT} (h : NTok P f T C) : ({ X with N := (f, T, C) :: X.N } : Cx).ok P :=
  ⟨hX.U, hX.I, hX.C, hX.H, fun g T' D hg => by
    simp only [fnd, beqN] at hg
    by_cases e : g = f
    · rw [decide_eq_true e, cond_true] at hg
      simp only [Option.some.injEq, Prod.mk.injEq] at hg
      obtain ⟨rfl, rfl⟩ := hg
      rw [e]; exact h
    · rw [decide_eq_false e, cond_false] at hg
      exact hX.N g T' D hg, hX.M, hX.L, hX.E⟩
theorem Cx.ok.addL {X : Cx} (hX : X.ok P) {f : FuncId} {C : IT} (h : ITok P f C) : ({ X with L := (f, C) :: X.L } : Cx).ok P :=
  ⟨hX.U, hX.I, hX.C, hX.H, hX.N, hX.M, fun g D hg => by
    simp only [fnd, beqN] at hg
    by_cases e : g = f
    · rw [decide_eq_true e, cond_true] at hg
      obtain rfl := Option.some.inj hg
      rw [e]; exact h
    · rw [decide_eq_false e, cond_false] at hg
      exact hX.L g D hg, hX.E⟩
/-- A function that is entered. -/
theorem inl_ok {X : Cx} (hX : X.ok P) {f : FuncId} {fn : Func} (hf : P.funcs[f]? = some fn) (hb : fn.body = some (bodyOf fn)) (hr : (fn.name == "runtime.NumGoroutine") = false) (sc : List XV → XS → Sc) : ITok P f (inl X fn sc) := by
  refine ⟨⟨fn, _, hf, hb, hr⟩, fun args S K h F ρ t L bs hR ha => ?_⟩
  unfold inl at h
  split at h
  case h_2 => exact h.elim
  rename_i hn
  rw [bleN, decide_eq_true_eq, xlen_eq] at hn
  refine fun_ok hX hf hb (by rw [← ha.length]; exact hn) (S := { S with s := xslots 0 args }) (R := K) ⟨fun i => ?_, hR.rw, hR.inj, hR.nx, hR.fr, hR.pin, hR.gh⟩ h
  rcases look_slots 0 ha i with h1 | h1
  · simpa [tm0] using h1
  · show RV _ (look (xslots 0 args) i) _
    rw [h1]; simp [RV]
theorem exv {X : Cx} {fn : Func} {args : List XV} {v : XV} {p : Prop} {sc : Sc} (e : p = funC X fn sc args v) (h : p) : ∃ sc, funC X fn sc args v := ⟨sc, e ▸ h⟩
theorem exvH {X : Cx} {fn : Func} {c r : List XV} {v : XV} {c' : List XV} {p : TypeId → Bool → Prop} {sc : Sc} (e : ∀ t ap, p t ap = funH X fn sc t ap c r v c') (h : ∀ t ap, p t ap) : ∃ sc, ∀ t ap, funH X fn sc t ap c r v c' := ⟨sc, fun t ap => e t ap ▸ h t ap⟩
theorem exvN {X : Cx} {fn : Func} {args : List XV} {T : TypeId} {c : List XV} {p : Prop} {sc : Sc} (e : p = funN X fn sc args T c) (h : p) : ∃ sc, funN X fn sc args T c := ⟨sc, e ▸ h⟩
theorem via {p q : Prop} (e : p = q) (h : p) : q := by rw [← e]; exact h
theorem in64.mk {i : Int} (h0 : -9223372036854775808 ≤ i) (h1 : i ≤ 9223372036854775807) : in64 i := ⟨h0, h1⟩
/-! Kinds of arguments -/
def DcOk {α : Type} (d : Dc α) : Prop := ∀ x cs a, d.dec x = some (cs, a) → (∀ p ∈ cs, p) → x.pd = true ∧ (d.enc a).pd = true ∧ ∀ L w z, VS L w (toAV x) z → VS L w (toAV (d.enc a)) z
/-- The same, and it stands there just so. -/
def DcEq {α : Type} (d : Dc α) : Prop := ∀ x cs a, d.dec x = some (cs, a) → (∀ p ∈ cs, p) → x.pd = true ∧ (d.enc a).pd = true ∧ toAV x = toAV (d.enc a)
theorem DcEq.ok {α : Type} {d : Dc α} (h : DcEq d) : DcOk d := fun x cs a hd hc => by
  obtain ⟨h1, h2, h3⟩ := h x cs a hd hc
  exact ⟨h1, h2, fun L w z hz => by rw [← h3]; exact hz⟩
theorem dInt_eq : DcEq dInt := fun x cs a h _ => by
  simp only [dInt] at h
  split at h
  · rename_i hi
    simp only [Option.some.injEq, Prod.mk.injEq] at h
    obtain ⟨-, rfl⟩ := h
    rw [intO_eq hi]
    exact ⟨rfl, rfl, rfl⟩
  · cases h
theorem dBool_eq : DcEq dBool := fun x cs a h _ => by
  simp only [dBool] at h
  split at h
  · rename_i hi
    simp only [Option.some.injEq, Prod.mk.injEq] at h
    obtain ⟨-, rfl⟩ := h
    rw [boolO_eq hi]
    exact ⟨rfl, rfl, rfl⟩
  · cases h
theorem dStr_eq : DcEq dStr := fun x cs a h _ => by
  simp only [dStr] at h
  split at h
  · rename_i hi
    simp only [Option.some.injEq, Prod.mk.injEq] at h
    obtain ⟨-, rfl⟩ := h
    rw [strO_eq hi]
    exact ⟨rfl, rfl, rfl⟩
  · cases h
theorem dSl_ok {β : Type} {sz : Nat} {r : List XV → β} {e : β → List XV} {d : β} : DcOk (dSl sz r e d) := fun x cs a h hc => by
  simp only [dSl] at h
  split at h
  · rename_i n s f
    split at h
    · rename_i hb
      rw [beqN, decide_eq_true_eq] at hb
      simp only [Option.some.injEq, Prod.mk.injEq] at h
      obtain ⟨rfl, rfl⟩ := h
      subst hb
      refine ⟨rfl, rfl, fun L w z hz => ?_⟩
      simp only [dSl, sqX, toAV] at hz ⊢
      have := all1 hc
      rw [← vecOf_congr (g := fun i => toAVL (f i)) fun j hj => by rw [← this j hj]]
      exact hz
    · cases h
  · split at h
    · rename_i hn
      simp only [Option.some.injEq, Prod.mk.injEq] at h
      obtain ⟨-, rfl⟩ := h
      rw [nilO_eq hn]
      refine ⟨rfl, rfl, fun L w z hz => ?_⟩
      simp only [toAV, VS] at hz
      rw [hz]
      exact VS_fz0 _ _
    · cases h
theorem JF.weakArgs {f : FuncId} {bs bs' : List AV} {R : AV → GH → Prop} (h : JF P f bs' L R) (k : ∀ w xs, VSL L w bs xs → VSL L w bs' xs) : JF P f bs L R := fun w xs hg hv hw => h w xs hg (k w xs hv) hw
/-- A contract out of a symbolic run; arguments told in other words. -/
theorem ct_ok2 {X : Cx} (hX : X.ok P) {f : FuncId} {fn : Func} (hf : P.funcs[f]? = some fn) (hb : fn.body = some (bodyOf fn)) (hr : (fn.name == "runtime.NumGoroutine") = false) {C : CT}
    (h : ∀ args cs v, C args = some (cs, v) → (∀ p ∈ cs, p) → ∃ args', Nat.ble args'.length fn.ntmps = true ∧ pdL args = true ∧ pdL args' = true ∧ (∀ L w zs, VSL L w (toAVL args) zs → VSL L w (toAVL args') zs) ∧ v.pd = true ∧ ∃ sc, funC X fn sc args' v) : CTok P f C := by
  refine ⟨⟨fn, bodyOf fn, hf, hb, hr⟩, fun args cs v hC hc ρ bs hargs => ?_⟩
  obtain ⟨args', h0, h1, h1', hw, h2, sc, h3⟩ := h args cs v hC hc
  have hbs := RVL.pd _ _ h1 hargs
  subst hbs
  refine ⟨toAV v, pd_RV ρ v h2, fun L => ?_⟩
  rw [bleN, decide_eq_true_eq] at h0
  refine JF.weakArgs ((fun_ok hX hf hb (by rw [toAVL_length]; exact h0) (rel0 (pd_RVL noRho args' h1')) h3).conv ?_) (hw L)
  rintro b L1 w x ⟨ρ', S', t', xv, hR, hv, hq⟩ hrows hx
  exact ⟨toAV v, L, RX_VS hR hrows (dom_F hR) (off_F hR) v xv b x h2 hq hv hx, rows_F hR hrows, dom_F hR, rfl, rfl⟩
/-! Contracts with several ends -/
def ATok (P : Program) (f : FuncId) (C : AT) : Prop :=
  (∃ fn c, P.funcs[f]? = some fn ∧ fn.body = some c ∧ (fn.name == "runtime.NumGoroutine") = false) ∧
  ∀ args cs alts, C args = some (cs, alts) → (∀ p ∈ cs, p) → ∀ ρ bs, RVL ρ args bs → (∀ a ∈ alts, a.2.pd = true) ∧ ∀ L, JF P f bs L fun r L' => L' = L ∧ ∃ a ∈ alts, a.1 ∧ r = toAV a.2
theorem altQ_mem {S : XS} {r : XV} : ∀ {l : List (Prop × XV)}, altQ S r l → ∃ a ∈ l, a.1 ∧ RX S r a.2
  | [], h => h.elim
  | (φ, v) :: l, h => by
    rcases h with ⟨h1, h2⟩ | h
    · exact ⟨(φ, v), by simp, h1, h2⟩
    · obtain ⟨a, ha, k⟩ := altQ_mem h
      exact ⟨a, by simp [ha], k⟩
theorem altK_mem {S : XS} {K : XV → XS → Prop} : ∀ {l : List (Prop × XV)}, altK l S K → ∀ a ∈ l, a.1 → K a.2 S
  | [], _, a, ha, _ => by cases ha
  | (φ, v) :: l, h, a, ha, hp => by
    rcases List.mem_cons.1 ha with rfl | ha
    · exact h.1 hp
    · exact altK_mem h.2 a ha hp
theorem itA_ok {f : FuncId} {C : AT} (h : ATok P f C) : ITok P f (itA C) := by
  obtain ⟨h0, h⟩ := h
  refine ⟨h0, fun args S K hk F ρ t L bs hR ha => ?_⟩
  unfold itA at hk
  split at hk
  · rename_i cs alts hC
    obtain ⟨hc, hk⟩ := andK_all _ _ hk
    obtain ⟨hp, hj⟩ := h args cs alts hC hc ρ bs ha
    refine (hj L).mono ?_
    rintro r L' ⟨rfl, a, ham, hφ, rfl⟩
    exact ⟨ρ, S, t, a.2, hR, pd_RV ρ a.2 (hp a ham), altK_mem hk a ham hφ⟩
  · exact hk.elim
theorem at_ok {X : Cx} (hX : X.ok P) {f : FuncId} {fn : Func} (hf : P.funcs[f]? = some fn) (hb : fn.body = some (bodyOf fn)) (hr : (fn.name == "runtime.NumGoroutine") = false) {C : AT}
    (h : ∀ args cs alts, C args = some (cs, alts) → (∀ p ∈ cs, p) → ∃ args', Nat.ble args'.length fn.ntmps = true ∧ pdL args = true ∧ pdL args' = true ∧ (∀ L w zs, VSL L w (toAVL args) zs → VSL L w (toAVL args') zs) ∧ (∀ a ∈ alts, a.2.pd = true) ∧ ∃ sc, funA X fn sc args' alts) : ATok P f C := by
  refine ⟨⟨fn, bodyOf fn, hf, hb, hr⟩, fun args cs alts hC hc ρ bs hargs => ?_⟩
  obtain ⟨args', h0, h1, h1', hw, h2, sc, h3⟩ := h args cs alts hC hc
  have hbs := RVL.pd _ _ h1 hargs
  subst hbs
  refine ⟨h2, fun L => ?_⟩
  rw [bleN, decide_eq_true_eq] at h0
  refine JF.weakArgs ((fun_ok hX hf hb (by rw [toAVL_length]; exact h0) (rel0 (pd_RVL noRho args' h1')) h3).conv ?_) (hw L)
  rintro b L1 w x ⟨ρ', S', t', xv, hR, hv, hq⟩ hrows hx
  obtain ⟨a, ham, hφ, hq⟩ := altQ_mem hq
  exact ⟨toAV a.2, L, RX_VS hR hrows (dom_F hR) (off_F hR) a.2 xv b x (h2 a ham) hq hv hx, rows_F hR hrows, dom_F hR, rfl, a, ham, hφ, rfl⟩
theorem C0_ok {X : Cx} (hX : X.ok P) {f : FuncId} {fn : Func} (hf : P.funcs[f]? = some fn) (hb : fn.body = some (bodyOf fn)) (hr : (fn.name == "runtime.NumGoroutine") = false) {cs : List Prop} {v : XV}
    (hp : v.pd = true) (h : (∀ p ∈ cs, p) → ∃ sc, funC X fn sc [] v) : CTok P f (C0 cs v) := ct_ok2 hX hf hb hr fun args cs' v' hC hc => by
  unfold C0 at hC
  split at hC
  · simp only [Option.some.injEq, Prod.mk.injEq] at hC
    obtain ⟨rfl, rfl⟩ := hC
    exact ⟨[], by simp [bleN], rfl, rfl, fun _ _ _ h => h, hp, h hc⟩
  · cases hC
theorem C1_ok {X : Cx} (hX : X.ok P) {f : FuncId} {fn : Func} (hf : P.funcs[f]? = some fn) (hb : fn.body = some (bodyOf fn)) (hr : (fn.name == "runtime.NumGoroutine") = false) {α : Type} {d : Dc α} {cs : α → List Prop} {v : α → XV}
    (hd : DcOk d) (hn : Nat.ble 1 fn.ntmps = true) (hp : ∀ a, (v a).pd = true) (h : ∀ a, (∀ p ∈ cs a, p) → ∃ sc, funC X fn sc [d.enc a] (v a)) : CTok P f (C1 d cs v) := ct_ok2 hX hf hb hr fun args cs' v' hC hc => by
  unfold C1 at hC
  split at hC
  · split at hC
    · rename_i p a hx
      simp only [Option.some.injEq, Prod.mk.injEq] at hC
      obtain ⟨rfl, rfl⟩ := hC
      obtain ⟨h1, h2, h3⟩ := hd _ p a hx (allL hc)
      refine ⟨[d.enc a], hn, by simp [pdL, h1], by simp [pdL, h2], fun L w zs hz => ?_, hp a, h a (allR hc)⟩
      match zs, hz with
      | [z], hz => simp only [toAVL, VSL] at hz ⊢; exact ⟨h3 L w z hz.1, trivial⟩
      | [], hz => simp [toAVL, VSL] at hz
      | _ :: _ :: _, hz => simp [toAVL, VSL] at hz
    · cases hC
  · cases hC
theorem C2_ok {X : Cx} (hX : X.ok P) {f : FuncId} {fn : Func} (hf : P.funcs[f]? = some fn) (hb : fn.body = some (bodyOf fn)) (hr : (fn.name == "runtime.NumGoroutine") = false) {α β : Type} {d : Dc α} {e : Dc β} {cs : α → β → List Prop} {v : α → β → XV}
    (hd : DcOk d) (he : DcOk e) (hn : Nat.ble 2 fn.ntmps = true) (hp : ∀ a b, (v a b).pd = true) (h : ∀ a b, (∀ p ∈ cs a b, p) → ∃ sc, funC X fn sc [d.enc a, e.enc b] (v a b)) : CTok P f (C2 d e cs v) := ct_ok2 hX hf hb hr fun args cs' v' hC hc => by
  unfold C2 at hC
  split at hC
  · split at hC
    · rename_i p a q b hx hy
      simp only [Option.some.injEq, Prod.mk.injEq] at hC
      obtain ⟨rfl, rfl⟩ := hC
      obtain ⟨h1, h2, h3⟩ := hd _ p a hx (allL hc)
      obtain ⟨k1, k2, k3⟩ := he _ q b hy (allL (allR hc))
      refine ⟨[d.enc a, e.enc b], hn, by simp [pdL, h1, k1], by simp [pdL, h2, k2], fun L w zs hz => ?_, hp a b, h a b (allR (allR hc))⟩
      match zs, hz with
      | [z, z2], hz => simp only [toAVL, VSL] at hz ⊢; exact ⟨h3 L w z hz.1, k3 L w z2 hz.2.1, trivial⟩
      | [], hz => simp [toAVL, VSL] at hz
      | [_], hz => simp [toAVL, VSL] at hz
      | _ :: _ :: _ :: _, hz => simp [toAVL, VSL] at hz
    · cases hC
  · cases hC
theorem C3_ok {X : Cx} (hX : X.ok P) {f : FuncId} {fn : Func} (hf : P.funcs[f]? = some fn) (hb : fn.body = some (bodyOf fn)) (hr : (fn.name == "runtime.NumGoroutine") = false) {α β γ : Type} {d : Dc α} {e : Dc β} {g : Dc γ} {cs : α → β → γ → List Prop} {v : α → β → γ → XV}
    (hd : DcOk d) (he : DcOk e) (hg : DcOk g) (hn : Nat.ble 3 fn.ntmps = true) (hp : ∀ a b c, (v a b c).pd = true) (h : ∀ a b c, (∀ p ∈ cs a b c, p) → ∃ sc, funC X fn sc [d.enc a, e.enc b, g.enc c] (v a b c)) : CTok P f (C3 d e g cs v) := ct_ok2 hX hf hb hr fun args cs' v' hC hc => by
  unfold C3 at hC
  split at hC
  · split at hC
    · rename_i p a q b r c hx hy hz
      simp only [Option.some.injEq, Prod.mk.injEq] at hC
      obtain ⟨rfl, rfl⟩ := hC
      obtain ⟨h1, h2, h3⟩ := hd _ p a hx (allL hc)
      obtain ⟨k1, k2, k3⟩ := he _ q b hy (allL (allR hc))
      obtain ⟨m1, m2, m3⟩ := hg _ r c hz (allL (allR (allR hc)))
      refine ⟨[d.enc a, e.enc b, g.enc c], hn, by simp [pdL, h1, k1, m1], by simp [pdL, h2, k2, m2], fun L w zs hz => ?_, hp a b c, h a b c (allR (allR (allR hc)))⟩
      match zs, hz with
      | [z, z2, z3], hz => simp only [toAVL, VSL] at hz ⊢; exact ⟨h3 L w z hz.1, k3 L w z2 hz.2.1, m3 L w z3 hz.2.2.1, trivial⟩
      | [], hz => simp [toAVL, VSL] at hz
      | [_], hz => simp [toAVL, VSL] at hz
      | [_, _], hz => simp [toAVL, VSL] at hz
      | _ :: _ :: _ :: _ :: _, hz => simp [toAVL, VSL] at hz
    · cases hC
  · cases hC
def DcLOk {α : Type} (d : DcL α) : Prop := ∀ x cs a, d.dec x = some (cs, a) → (∀ p ∈ cs, p) → pdL x = true ∧ (∀ b, pdL (d.enc b) = true) ∧ toAVL x = toAVL (d.enc a)
/-- The same for a function whose first argument is the address of a variable of one's own. -/
theorem ht_ok2 {X : Cx} (hX : X.ok P) {f : FuncId} {fn : Func} (hf : P.funcs[f]? = some fn) (hb : fn.body = some (bodyOf fn)) (hr : (fn.name == "runtime.NumGoroutine") = false) {H : HT}
    (h : ∀ cells rest cs v o, H cells rest = some (cs, v, o) → (∀ p ∈ cs, p) → ∃ cells' rest', Nat.ble (rest'.length + 1) fn.ntmps = true ∧ pdL cells = true ∧ pdL cells' = true ∧ toAVL cells = toAVL cells' ∧ pdL rest = true ∧ pdL rest' = true ∧ (∀ L w zs, VSL L w (toAVL rest) zs → VSL L w (toAVL rest') zs) ∧ v.pd = true ∧
      (match o with | some c => pdL c = true ∧ ∃ sc, ∀ e ap, funH X fn sc e ap cells' rest' v c | none => ∃ sc, ∀ e ap, funH X fn sc e ap cells' rest' v cells')) : HTok P f H := by
  refine ⟨⟨fn, bodyOf fn, hf, hb, hr⟩, fun cells rest cs v o hH hc ρ g row bs rap hap hcells hrest => ?_⟩
  obtain ⟨cells', rest', h0, q1, q2, q3, q4, q5, q6, q7, q8⟩ := h cells rest cs v o hH hc
  have e1 := RVL.pd _ _ q1 hcells
  have e2 := RVL.pd _ _ q4 hrest
  subst e2
  -- by the run on the arguments told in other words
  classical
  let H' : HT := fun c r => if c = cells' ∧ r = rest' then some ([], v, o) else none
  have hH' : HTok P f H' := by
    refine ht_ok hX hf hb hr fun c r cs2 v2 o2 h2 _ => ?_
    simp only [H'] at h2
    split at h2
    · rename_i hcr
      obtain ⟨rfl, rfl⟩ := hcr
      simp only [Option.some.injEq, Prod.mk.injEq] at h2
      obtain ⟨-, rfl, rfl⟩ := h2
      cases o with
      | none => obtain ⟨sc, k⟩ := q8; exact ⟨h0, q2, q5, q7, q2, sc, k⟩
      | some c' => obtain ⟨k1, sc, k⟩ := q8; exact ⟨h0, q2, q5, q7, k1, sc, k⟩
    · cases h2
  obtain ⟨v', row', a1, a2, a3⟩ := hH'.2 cells' rest' [] v o (by simp [H']) (by simp) ρ g row (toAVL rest') rap hap (by rw [e1, q3]; exact pd_RVL ρ _ q2) (pd_RVL ρ _ q5)
  exact ⟨v', row', a1, a2, fun L hL => JF.weakArgs (a3 L hL) fun w xs hx => by
    cases xs with
    | nil => simp [VSL] at hx
    | cons x xs => simp only [VSL] at hx ⊢; exact ⟨hx.1, q6 L w xs hx.2⟩⟩
theorem H0_ok {X : Cx} (hX : X.ok P) {f : FuncId} {fn : Func} (hf : P.funcs[f]? = some fn) (hb : fn.body = some (bodyOf fn)) (hr : (fn.name == "runtime.NumGoroutine") = false) {α : Type} {d : DcL α} {cs : α → List Prop} {v : α → XV} {o : α → Option α}
    (hd : DcLOk d) (hn : Nat.ble 1 fn.ntmps = true) (hp : ∀ a, (v a).pd = true) (h : ∀ a, (∀ p ∈ cs a, p) → ∃ sc, ∀ e ap, funH X fn sc e ap (d.enc a) [] (v a) (d.enc ((o a).getD a))) : HTok P f (H0 d cs v o) := ht_ok2 hX hf hb hr fun cells rest cs' v' o' hH hc => by
  unfold H0 at hH
  split at hH
  · split at hH
    · rename_i p a hx
      simp only [Option.some.injEq, Prod.mk.injEq] at hH
      obtain ⟨rfl, rfl, rfl⟩ := hH
      obtain ⟨h1, h2, h3⟩ := hd _ p a hx (allL hc)
      refine ⟨d.enc a, [], hn, h1, h2 a, h3, rfl, rfl, fun _ _ _ h => h, hp a, ?_⟩
      have := h a (allR hc)
      cases hoa : o a with
      | none => rw [hoa] at this; exact this
      | some c => rw [hoa] at this; exact ⟨h2 c, this⟩
    · cases hH
  · cases hH
theorem H1_ok {X : Cx} (hX : X.ok P) {f : FuncId} {fn : Func} (hf : P.funcs[f]? = some fn) (hb : fn.body = some (bodyOf fn)) (hr : (fn.name == "runtime.NumGoroutine") = false) {α β : Type} {d : DcL α} {e : Dc β} {cs : α → β → List Prop} {v : α → β → XV} {o : α → β → Option α}
    (hd : DcLOk d) (he : DcOk e) (hn : Nat.ble 2 fn.ntmps = true) (hp : ∀ a b, (v a b).pd = true) (h : ∀ a b, (∀ p ∈ cs a b, p) → ∃ sc, ∀ t ap, funH X fn sc t ap (d.enc a) [e.enc b] (v a b) (d.enc ((o a b).getD a))) : HTok P f (H1 d e cs v o) := ht_ok2 hX hf hb hr fun cells rest cs' v' o' hH hc => by
  unfold H1 at hH
  split at hH
  · split at hH
    · rename_i p a q b hx hy
      simp only [Option.some.injEq, Prod.mk.injEq] at hH
      obtain ⟨rfl, rfl, rfl⟩ := hH
      obtain ⟨h1, h2, h3⟩ := hd _ p a hx (allL hc)
      obtain ⟨k1, k2, k3⟩ := he _ q b hy (allL (allR hc))
      refine ⟨d.enc a, [e.enc b], hn, h1, h2 a, h3, by simp [pdL, k1], by simp [pdL, k2], fun L w zs hz => ?_, hp a b, ?_⟩
      · match zs, hz with
        | [z], hz => simp only [toAVL, VSL] at hz ⊢; exact ⟨k3 L w z hz.1, trivial⟩
        | [], hz => simp [toAVL, VSL] at hz
        | _ :: _ :: _, hz => simp [toAVL, VSL] at hz
      · have := h a b (allR (allR hc))
        cases hoa : o a b with
        | none => rw [hoa] at this; exact this
        | some c => rw [hoa] at this; exact ⟨h2 c, this⟩
    · cases hH
  · cases hH
theorem nt_ok2 {X : Cx} (hX : X.ok P) {f : FuncId} {fn : Func} (hf : P.funcs[f]? = some fn) (hb : fn.body = some (bodyOf fn)) (hr : (fn.name == "runtime.NumGoroutine") = false) {T : TypeId} {M : NT}
    (h : ∀ args cs cells, M args = some (cs, cells) → (∀ p ∈ cs, p) → ∃ args', Nat.ble args'.length fn.ntmps = true ∧ pdL args = true ∧ pdL args' = true ∧ (∀ L w zs, VSL L w (toAVL args) zs → VSL L w (toAVL args') zs) ∧ pdL cells = true ∧ ∃ sc, funN X fn sc args' T cells) : NTok P f T M := by
  refine ⟨⟨fn, bodyOf fn, hf, hb, hr⟩, fun args cs cells hM hc ρ bs hargs => ?_⟩
  obtain ⟨args', h0, h1, h1', hw, h2, sc, h3⟩ := h args cs cells hM hc
  have hbs := RVL.pd _ _ h1 hargs
  subst hbs
  refine ⟨toAVL cells, pd_RVL ρ cells h2, fun L => ?_⟩
  rw [bleN, decide_eq_true_eq] at h0
  refine JF.weakArgs ((fun_ok hX hf hb (by rw [toAVL_length]; exact h0) (rel0 (pd_RVL noRho args' h1')) h3).conv ?_) (hw L)
  rintro b L1 w x ⟨ρ', S', t', xv, hR, hv, hq⟩ hrows hx
  unfold ptrIs at hq
  split at hq
  · rename_i id
    simp only [RV] at hv
    obtain ⟨g, hg, rfl⟩ := hv
    obtain ⟨k1, k2, k3, k4⟩ := row_out hR hrows hg hq h2
    refine ⟨.ptr g 0, _, ?_, k1, k2, g, k4, rfl, rfl⟩
    simpa [VS] using hx
  · exact hq.elim
theorem N2_ok {X : Cx} (hX : X.ok P) {f : FuncId} {fn : Func} (hf : P.funcs[f]? = some fn) (hb : fn.body = some (bodyOf fn)) (hr : (fn.name == "runtime.NumGoroutine") = false) {T : TypeId} {α β : Type} {d : Dc α} {e : Dc β} {cs : α → β → List Prop} {c : α → β → List XV}
    (hd : DcOk d) (he : DcOk e) (hn : Nat.ble 2 fn.ntmps = true) (hp : ∀ a b, pdL (c a b) = true) (h : ∀ a b, (∀ p ∈ cs a b, p) → ∃ sc, funN X fn sc [d.enc a, e.enc b] T (c a b)) : NTok P f T (N2 d e cs c) := nt_ok2 hX hf hb hr fun args cs' v' hC hc => by
  unfold N2 at hC
  split at hC
  · split at hC
    · rename_i p a q b hx hy
      simp only [Option.some.injEq, Prod.mk.injEq] at hC
      obtain ⟨rfl, rfl⟩ := hC
      obtain ⟨h1, h2, h3⟩ := hd _ p a hx (allL hc)
      obtain ⟨k1, k2, k3⟩ := he _ q b hy (allL (allR hc))
      refine ⟨[d.enc a, e.enc b], hn, by simp [pdL, h1, k1], by simp [pdL, h2, k2], fun L w zs hz => ?_, hp a b, h a b (allR (allR hc))⟩
      match zs, hz with
      | [z, z2], hz => simp only [toAVL, VSL] at hz ⊢; exact ⟨h3 L w z hz.1, k3 L w z2 hz.2.1, trivial⟩
      | [], hz => simp [toAVL, VSL] at hz
      | [_], hz => simp [toAVL, VSL] at hz
      | _ :: _ :: _ :: _, hz => simp [toAVL, VSL] at hz
    · cases hC
  · cases hC
end
end Go.Proofs.YthomfpdigmeheaaDoorAv
set_option linter.unusedVariables false
set_option linter.unusedSimpArgs false
namespace Go.Proofs.YthomfpdigmeheaaDoorAv
open Go Go.RowKit
theorem Below.drewN' (w : World) (n : Nat) : Below w.heap.size w (w.drewN n) := ⟨rfl, rfl, rfl, Nat.le_refl _, fun _ _ => rfl⟩
theorem Below.same' {w w' : World} (h : w' = w) : Below w.heap.size w w' := by rw [h]; exact Below.refl _ _
theorem Below.ext' {L : GH} {w w' : World} (h : Below w.heap.size w w') : Ext L w L w' :=
  ⟨h.os, h.tape, h.output, h.size, fun b hb _ => h.block b hb, fun b _ hl => hl, fun b c e fr hc => ⟨c, e, fr, by
    have hb : b < w.heap.size := by
      rcases Nat.lt_or_ge b w.heap.size with h' | h'
      · exact h'
      · rw [Array.getElem?_eq_none h'] at hc; cases hc
    rw [h.block b hb]; exact hc, rfl⟩⟩
section
variable {P : Program}
/-- A contract out of what a call does to a world. -/
theorem JF.lib {f : FuncId} {args : List AV} {L : GH} {v : AV}
    (h : ∀ w xs, Glb L w → (∀ g, w.heap.size ≤ g → L g = none) → VSL L w args xs → Calls P f xs.toArray w fun e w' => ∃ x, e = .returned x ∧ VS L w' v x ∧ Below w.heap.size w w') : JF P f args L (fun r L' => r = v ∧ L' = L) := by
  intro w xs hg hv hrows
  refine (h w xs hg (fun g hg => ?_) hv).mono fun e w' ⟨x, he, hx, hb⟩ => ⟨v, x, L, he, hx, fun g r hr => ?_, Below.ext' hb, rfl, rfl⟩
  · cases hl : L g with
    | none => rfl
    | some r => exact absurd (hrows g r hl).lt (by omega)
  · have k := hrows g r hr
    have hb' : g < w.heap.size := k.lt
    exact k.ext (Below.ext' hb) (hb.block g hb')
theorem JF.libA {f : FuncId} {args : List AV} {L : GH} {alts : List (Prop × XV)}
    (h : ∀ w xs, Glb L w → (∀ g, w.heap.size ≤ g → L g = none) → VSL L w args xs → Calls P f xs.toArray w fun e w' => ∃ a ∈ alts, a.1 ∧ ∃ x, e = .returned x ∧ VS L w' (toAV a.2) x ∧ Below w.heap.size w w') : JF P f args L (fun r L' => L' = L ∧ ∃ a ∈ alts, a.1 ∧ r = toAV a.2) := by
  intro w xs hg hv hrows
  refine (h w xs hg (fun g hg => ?_) hv).mono fun e w' ⟨a, ham, hφ, x, he, hx, hb⟩ => ⟨toAV a.2, x, L, he, hx, fun g r hr => ?_, Below.ext' hb, rfl, a, ham, hφ, rfl⟩
  · cases hl : L g with
    | none => rfl
    | some r => exact absurd (hrows g r hl).lt (by omega)
  · have k := hrows g r hr
    have hb' : g < w.heap.size := k.lt
    exact k.ext (Below.ext' hb) (hb.block g hb')
theorem at_lib {f : FuncId} {fn : Func} {c : Code} (hf : P.funcs[f]? = some fn) (hb : fn.body = some c) (hr : (fn.name == "runtime.NumGoroutine") = false) {C : AT}
    (h : ∀ args cs alts, C args = some (cs, alts) → (∀ p ∈ cs, p) → pdL args = true ∧ (∀ a ∈ alts, a.2.pd = true) ∧ ∀ L w xs, Glb L w → (∀ g, w.heap.size ≤ g → L g = none) → VSL L w (toAVL args) xs →
      Calls P f xs.toArray w fun e w' => ∃ a ∈ alts, a.1 ∧ ∃ x, e = .returned x ∧ VS L w' (toAV a.2) x ∧ Below w.heap.size w w') : ATok P f C := by
  refine ⟨⟨fn, c, hf, hb, hr⟩, fun args cs alts hC hc ρ bs ha => ?_⟩
  obtain ⟨h1, h2, h3⟩ := h args cs alts hC hc
  refine ⟨h2, fun L => ?_⟩
  rw [RVL.pd args bs h1 ha]
  exact JF.libA fun w xs hg hfr hv => h3 L w xs hg hfr hv
theorem ct_lib {f : FuncId} {fn : Func} {c : Code} (hf : P.funcs[f]? = some fn) (hb : fn.body = some c) (hr : (fn.name == "runtime.NumGoroutine") = false) {C : CT}
    (h : ∀ args cs v, C args = some (cs, v) → (∀ p ∈ cs, p) → pdL args = true ∧ v.pd = true ∧ ∀ L w xs, Glb L w → (∀ g, w.heap.size ≤ g → L g = none) → VSL L w (toAVL args) xs →
      Calls P f xs.toArray w fun e w' => ∃ x, e = .returned x ∧ VS L w' (toAV v) x ∧ Below w.heap.size w w') : CTok P f C := by
  refine ⟨⟨fn, c, hf, hb, hr⟩, fun args cs v hC hc ρ bs ha => ?_⟩
  obtain ⟨h1, h2, h3⟩ := h args cs v hC hc
  refine ⟨toAV v, pd_RV ρ v h2, fun L => ?_⟩
  rw [RVL.pd args bs h1 ha]
  exact JF.lib fun w xs hg hfr hv => h3 L w xs hg hfr hv
theorem ct_lib2 {f : FuncId} {fn : Func} {c : Code} (hf : P.funcs[f]? = some fn) (hb : fn.body = some c) (hr : (fn.name == "runtime.NumGoroutine") = false) {α β : Type} {d : Dc α} {e : Dc β} (hd : DcOk d) (he : DcOk e) {cs : α → β → List Prop} {v : α → β → XV} (hv : ∀ a b, (v a b).pd = true)
    (h : ∀ a b, (∀ p ∈ cs a b, p) → ∀ L w x y, Glb L w → (∀ g, w.heap.size ≤ g → L g = none) → VS L w (toAV (d.enc a)) x → VS L w (toAV (e.enc b)) y → Calls P f #[x, y] w fun en w' => ∃ z, en = .returned z ∧ VS L w' (toAV (v a b)) z ∧ Below w.heap.size w w') : CTok P f (C2 d e cs v) :=
  ct_lib hf hb hr fun args ps u hC hc => by
    unfold C2 at hC
    split at hC
    · split at hC
      · rename_i p a q b hx hy
        simp only [Option.some.injEq, Prod.mk.injEq] at hC
        obtain ⟨rfl, rfl⟩ := hC
        obtain ⟨h1, h2, h3⟩ := hd _ p a hx fun r hr => hc r (by simp [hr])
        obtain ⟨k1, k2, k3⟩ := he _ q b hy fun r hr => hc r (by simp [hr])
        refine ⟨by simp [pdL, h1, k1], hv _ _, fun L w xs hg hfr hz => ?_⟩
        match xs, hz with
        | [x, y], hz =>
          simp only [toAVL, VSL] at hz
          exact h a b (fun r hr => hc r (by simp [hr])) L w x y hg hfr (h3 L w x hz.1) (k3 L w y hz.2.1)
        | [], hz => simp [toAVL, VSL] at hz
        | [_], hz => simp [toAVL, VSL] at hz
        | _ :: _ :: _ :: _, hz => simp [toAVL, VSL] at hz
      · cases hC
    · cases hC
theorem VSL_str1 {L : GH} {w : World} {a : ByteArray} {xs : List Value} (h : VSL L w [.p (.string a)] xs) : xs = [.string a] := by
  have := VSL_map_p (l := [.string a]) (xs := xs) (by simpa using h)
  exact this
theorem VSL_str2 {L : GH} {w : World} {a b : ByteArray} {xs : List Value} (h : VSL L w [.p (.string a), .p (.string b)] xs) : xs = [.string a, .string b] :=
  VSL_map_p (l := [.string a, .string b]) (xs := xs) (by simpa using h)
theorem VSL_str3 {L : GH} {w : World} {a b c : ByteArray} {xs : List Value} (h : VSL L w [.p (.string a), .p (.string b), .p (.string c)] xs) : xs = [.string a, .string b, .string c] :=
  VSL_map_p (l := [.string a, .string b, .string c]) (xs := xs) (by simpa using h)
theorem dStr_dec {x : XV} {cs : List Prop} {a : ByteArray} (h : dStr.dec x = some (cs, a)) : x = XT a ∧ cs = [] := by
  simp only [dStr] at h
  split at h
  · rename_i h1
    simp only [Option.some.injEq, Prod.mk.injEq] at h
    exact ⟨by rw [strO_eq h1, h.2], h.1.symm⟩
  · cases h
theorem dInt_dec {x : XV} {cs : List Prop} {a : Int} (h : dInt.dec x = some (cs, a)) : x = XI a ∧ cs = [] := by
  simp only [dInt] at h
  split at h
  · rename_i h1
    simp only [Option.some.injEq, Prod.mk.injEq] at h
    exact ⟨by rw [intO_eq h1, h.2], h.1.symm⟩
  · cases h
theorem ct_str1 {f : FuncId} {fn : Func} {c : Code} (hf : P.funcs[f]? = some fn) (hb : fn.body = some c) (hr : (fn.name == "runtime.NumGoroutine") = false) {cs : ByteArray → List Prop} {v : ByteArray → XV} (hv : ∀ a, (v a).pd = true)
    (h : ∀ a, (∀ p ∈ cs a, p) → ∀ L w, Glb L w → (∀ g, w.heap.size ≤ g → L g = none) → Calls P f #[.string a] w fun e w' => ∃ x, e = .returned x ∧ VS L w' (toAV (v a)) x ∧ Below w.heap.size w w') : CTok P f (C1 dStr cs v) :=
  ct_lib hf hb hr fun args ps u hC hc => by
    unfold C1 at hC
    split at hC
    · split at hC
      · rename_i h1
        simp only [Option.some.injEq, Prod.mk.injEq] at hC
        obtain ⟨rfl, rfl⟩ := hC
        obtain ⟨rfl, rfl⟩ := dStr_dec h1
        refine ⟨by simp [pdL, XV.pd], hv _, fun L w xs hg hfr hx => ?_⟩
        obtain rfl := VSL_str1 (by simpa [toAVL, toAV] using hx)
        exact h _ (by simpa using hc) L w hg hfr
      · cases hC
    · cases hC
theorem ct_str2 {f : FuncId} {fn : Func} {c : Code} (hf : P.funcs[f]? = some fn) (hb : fn.body = some c) (hr : (fn.name == "runtime.NumGoroutine") = false) {cs : ByteArray → ByteArray → List Prop} {v : ByteArray → ByteArray → XV} (hv : ∀ a b, (v a b).pd = true)
    (h : ∀ a b, (∀ p ∈ cs a b, p) → ∀ L w, Glb L w → (∀ g, w.heap.size ≤ g → L g = none) → Calls P f #[.string a, .string b] w fun e w' => ∃ x, e = .returned x ∧ VS L w' (toAV (v a b)) x ∧ Below w.heap.size w w') : CTok P f (C2 dStr dStr cs v) :=
  ct_lib hf hb hr fun args ps u hC hc => by
    unfold C2 at hC
    split at hC
    · split at hC
      · rename_i h1 h2
        simp only [Option.some.injEq, Prod.mk.injEq] at hC
        obtain ⟨rfl, rfl⟩ := hC
        obtain ⟨rfl, rfl⟩ := dStr_dec h1
        obtain ⟨rfl, rfl⟩ := dStr_dec h2
        refine ⟨by simp [pdL, XV.pd], hv _ _, fun L w xs hg hfr hx => ?_⟩
        obtain rfl := VSL_str2 (by simpa [toAVL, toAV] using hx)
        exact h _ _ (by simpa using hc) L w hg hfr
      · cases hC
    · cases hC
theorem ct_str3 {f : FuncId} {fn : Func} {c : Code} (hf : P.funcs[f]? = some fn) (hb : fn.body = some c) (hr : (fn.name == "runtime.NumGoroutine") = false) {cs : ByteArray → ByteArray → ByteArray → List Prop} {v : ByteArray → ByteArray → ByteArray → XV} (hv : ∀ a b c, (v a b c).pd = true)
    (h : ∀ a b c, (∀ p ∈ cs a b c, p) → ∀ L w, Glb L w → (∀ g, w.heap.size ≤ g → L g = none) → Calls P f #[.string a, .string b, .string c] w fun e w' => ∃ x, e = .returned x ∧ VS L w' (toAV (v a b c)) x ∧ Below w.heap.size w w') : CTok P f (C3 dStr dStr dStr cs v) :=
  ct_lib hf hb hr fun args ps u hC hc => by
    unfold C3 at hC
    split at hC
    · split at hC
      · rename_i h1 h2 h3
        simp only [Option.some.injEq, Prod.mk.injEq] at hC
        obtain ⟨rfl, rfl⟩ := hC
        obtain ⟨rfl, rfl⟩ := dStr_dec h1
        obtain ⟨rfl, rfl⟩ := dStr_dec h2
        obtain ⟨rfl, rfl⟩ := dStr_dec h3
        refine ⟨by simp [pdL, XV.pd], hv _ _ _, fun L w xs hg hfr hx => ?_⟩
        obtain rfl := VSL_str3 (by simpa [toAVL, toAV] using hx)
        exact h _ _ _ (by simpa using hc) L w hg hfr
      · cases hC
    · cases hC
end
/-- A list of texts in memory that is only read. -/
def strsL (l : List ByteArray) : XV := .fz l.length 1 fun i => [XT (l.getD i ⟨#[]⟩)]
theorem strsL_AV (l : List ByteArray) : toAV (strsL l) = .fz l.length (l.map fun s => AV.p (.string s)) := by
  simp only [strsL, toAV]
  congr 1
  apply List.ext_getElem?
  intro i
  rw [List.getElem?_map]
  rcases Nat.lt_or_ge i l.length with h | h
  · have := vecOf_get (n := l.length) (sz := 1) (g := fun i => toAVL [XT (l.getD i ⟨#[]⟩)]) (i := i) (o := 0) h (by omega)
    simp only [Nat.mul_one, Nat.add_zero] at this
    rw [this, List.getElem?_eq_getElem h]
    simp [toAVL, toAV, List.getD_eq_getElem?_getD, List.getElem?_eq_getElem h]
  · rw [List.getElem?_eq_none h, List.getElem?_eq_none (by rw [vecOf_length]; omega)]
    rfl
/-- A new block of texts, as a slice. -/
theorem VS_newStrs {L : GH} {w : World} {l : List ByteArray} {T : TypeId} (hfr : L w.heap.size = none) :
    VS L (w.alloc (.cells (l.map Value.string).toArray T)) (toAV (strsL l)) (.slice (some ⟨w.heap.size, 0, none⟩) l.length l.length) := by
  rw [strsL_AV]
  simp only [VS]
  refine ⟨_, _, l.map Value.string, rfl, Nat.le_refl _, .inr ⟨_, rfl, hfr, ?_, fun i v hi => ?_⟩, ?_⟩
  · intro v hv
    obtain ⟨s, _, rfl⟩ := List.mem_map.1 hv
    rfl
  · rw [add_plain, Nat.zero_add]
    simp only [World.cell?, World.alloc]
    simp only [Array.getElem?_push_size]
    simpa using hi
  · induction l with
    | nil => simp [VSL]
    | cons s l ih =>
      simp only [List.map_cons, VSL, VS]
      exact ⟨trivial, by
        clear ih
        generalize (w.alloc (.cells (Value.string s :: l.map Value.string).toArray T)) = w'
        induction l with
        | nil => simp [VSL]
        | cons s l ih => simp only [List.map_cons, VSL, VS]; exact ⟨trivial, ih⟩⟩
end Go.Proofs.YthomfpdigmeheaaDoorAv
set_option linter.unusedVariables false
namespace Go.Proofs.YthomfpdigmeheaaDoorAv
open Go Go.RowKit
def tabU : List (Nat × TypeDesc) := [(2, .int .i64),
  (3, .int .i64),
  (4, .bool),
  (5, .int .u8),
  (6, .int .u8),
  (9, .string),
  (10, .string),
  (11, .string),
  (12, .int .u64),
  (15, .pointer 90),
  (16, .pointer 93),
  (17, .pointer 102),
  (21, .int .i32),
  (22, .slice 9),
  (24, .int .i64),
  (27, .slice 104),
  (28, .struct #[{ name := "Servers", type := 27, offset := 0, embedded := false, tag := "", pkgPath := "", byteOffset := 0 }, { name := "Search", type := 22, offset := 1, embedded := false, tag := "", pkgPath := "", byteOffset := 24 }, { name := "Dots", type := 3, offset := 2, embedded := false, tag := "", pkgPath := "", byteOffset := 48 }, { name := "Timeout", type := 3, offset := 3, embedded := false, tag := "", pkgPath := "", byteOffset := 56 }, { name := "Attempts", type := 3, offset := 4, embedded := false, tag := "", pkgPath := "", byteOffset := 64 }]),
  (29, .struct #[{ name := "Servers", type := 27, offset := 0, embedded := false, tag := "", pkgPath := "", byteOffset := 0 }, { name := "Search", type := 22, offset := 1, embedded := false, tag := "", pkgPath := "", byteOffset := 24 }, { name := "Dots", type := 3, offset := 2, embedded := false, tag := "", pkgPath := "", byteOffset := 48 }, { name := "Timeout", type := 3, offset := 3, embedded := false, tag := "", pkgPath := "", byteOffset := 56 }, { name := "Attempts", type := 3, offset := 4, embedded := false, tag := "", pkgPath := "", byteOffset := 64 }]),
  (33, .map 9 4),
  (36, .slice 5),
  (50, .slice 21),
  (58, .struct #[{ name := "lo", type := 5, offset := 0, embedded := false, tag := "", pkgPath := "unicode/utf8", byteOffset := 0 }, { name := "hi", type := 5, offset := 1, embedded := false, tag := "", pkgPath := "unicode/utf8", byteOffset := 1 }]),
  (59, .struct #[{ name := "lo", type := 5, offset := 0, embedded := false, tag := "", pkgPath := "unicode/utf8", byteOffset := 0 }, { name := "hi", type := 5, offset := 1, embedded := false, tag := "", pkgPath := "unicode/utf8", byteOffset := 1 }]),
  (60, .array 16 59),
  (61, .int .u64),
  (66, .int .u64),
  (72, .int .u32),
  (75, .int .u16),
  (77, .slice 79),
  (78, .struct #[{ name := "From", type := 75, offset := 0, embedded := false, tag := "", pkgPath := "", byteOffset := 0 }, { name := "To", type := 75, offset := 1, embedded := false, tag := "", pkgPath := "", byteOffset := 2 }]),
  (79, .struct #[{ name := "From", type := 75, offset := 0, embedded := false, tag := "", pkgPath := "", byteOffset := 0 }, { name := "To", type := 75, offset := 1, embedded := false, tag := "", pkgPath := "", byteOffset := 2 }]),
  (80, .pointer 87),
  (82, .slice 87),
  (84, .array 3 21),
  (85, .array 3 21),
  (86, .struct #[{ name := "Lo", type := 72, offset := 0, embedded := false, tag := "", pkgPath := "", byteOffset := 0 }, { name := "Hi", type := 72, offset := 1, embedded := false, tag := "", pkgPath := "", byteOffset := 4 }, { name := "Delta", type := 85, offset := 2, embedded := false, tag := "", pkgPath := "", byteOffset := 8 }]),
  (87, .struct #[{ name := "Lo", type := 72, offset := 0, embedded := false, tag := "", pkgPath := "", byteOffset := 0 }, { name := "Hi", type := 72, offset := 1, embedded := false, tag := "", pkgPath := "", byteOffset := 4 }, { name := "Delta", type := 85, offset := 2, embedded := false, tag := "", pkgPath := "", byteOffset := 8 }]),
  (91, .array 0 16),
  (95, .int .u8),
  (96, .int .u8),
  (98, .pointer 5),
  (99, .int .i32),
  (100, .int .i32),
  (101, .struct #[{ name := "Size_", type := 12, offset := 0, embedded := false, tag := "", pkgPath := "", byteOffset := 0 }, { name := "PtrBytes", type := 12, offset := 1, embedded := false, tag := "", pkgPath := "", byteOffset := 8 }, { name := "Hash", type := 72, offset := 2, embedded := false, tag := "", pkgPath := "", byteOffset := 16 }, { name := "TFlag", type := 95, offset := 3, embedded := false, tag := "", pkgPath := "", byteOffset := 20 }, { name := "Align_", type := 5, offset := 4, embedded := false, tag := "", pkgPath := "", byteOffset := 21 }, { name := "FieldAlign_", type := 5, offset := 5, embedded := false, tag := "", pkgPath := "", byteOffset := 22 }, { name := "Kind_", type := 96, offset := 6, embedded := false, tag := "", pkgPath := "", byteOffset := 23 }, { name := "Equal", type := 97, offset := 7, embedded := false, tag := "", pkgPath := "", byteOffset := 24 }, { name := "GCData", type := 98, offset := 8, embedded := false, tag := "", pkgPath := "", byteOffset := 32 }, { name := "Str", type := 99, offset := 9, embedded := false, tag := "", pkgPath := "", byteOffset := 40 }, { name := "PtrToThis", type := 100, offset := 10, embedded := false, tag := "", pkgPath := "", byteOffset := 44 }]),
  (102, .struct #[{ name := "Size_", type := 12, offset := 0, embedded := false, tag := "", pkgPath := "", byteOffset := 0 }, { name := "PtrBytes", type := 12, offset := 1, embedded := false, tag := "", pkgPath := "", byteOffset := 8 }, { name := "Hash", type := 72, offset := 2, embedded := false, tag := "", pkgPath := "", byteOffset := 16 }, { name := "TFlag", type := 95, offset := 3, embedded := false, tag := "", pkgPath := "", byteOffset := 20 }, { name := "Align_", type := 5, offset := 4, embedded := false, tag := "", pkgPath := "", byteOffset := 21 }, { name := "FieldAlign_", type := 5, offset := 5, embedded := false, tag := "", pkgPath := "", byteOffset := 22 }, { name := "Kind_", type := 96, offset := 6, embedded := false, tag := "", pkgPath := "", byteOffset := 23 }, { name := "Equal", type := 97, offset := 7, embedded := false, tag := "", pkgPath := "", byteOffset := 24 }, { name := "GCData", type := 98, offset := 8, embedded := false, tag := "", pkgPath := "", byteOffset := 32 }, { name := "Str", type := 99, offset := 9, embedded := false, tag := "", pkgPath := "", byteOffset := 40 }, { name := "PtrToThis", type := 100, offset := 10, embedded := false, tag := "", pkgPath := "", byteOffset := 44 }]),
  (103, .array 16 5),
  (104, .array 16 5)]
def tabI : List (Nat × (Value × Nat × Nat)) := [(2, (.int .i64 (0)), 1, 8),
  (3, (.int .i64 (0)), 1, 8),
  (4, (.bool false), 1, 1),
  (5, (.int .u8 (0)), 1, 1),
  (6, (.int .u8 (0)), 1, 1),
  (9, (.string ⟨#[]⟩), 1, 16),
  (10, (.string ⟨#[]⟩), 1, 16),
  (11, (.string ⟨#[]⟩), 1, 16),
  (12, (.int .u64 (0)), 1, 8),
  (15, (.pointer none), 1, 8),
  (16, (.pointer none), 1, 8),
  (17, (.pointer none), 1, 8),
  (21, (.int .i32 (0)), 1, 4),
  (22, (.slice none 0 0), 1, 24),
  (24, (.int .i64 (0)), 1, 8),
  (27, (.slice none 0 0), 1, 24),
  (28, (.agg #[.slice none 0 0, .slice none 0 0, .int .i64 (0), .int .i64 (0), .int .i64 (0)]), 5, 72),
  (29, (.agg #[.slice none 0 0, .slice none 0 0, .int .i64 (0), .int .i64 (0), .int .i64 (0)]), 5, 72),
  (33, (.map none), 1, 8),
  (36, (.slice none 0 0), 1, 24),
  (50, (.slice none 0 0), 1, 24),
  (58, (.agg #[.int .u8 (0), .int .u8 (0)]), 2, 2),
  (59, (.agg #[.int .u8 (0), .int .u8 (0)]), 2, 2),
  (60, (.agg #[.int .u8 (0), .int .u8 (0), .int .u8 (0), .int .u8 (0), .int .u8 (0), .int .u8 (0), .int .u8 (0), .int .u8 (0), .int .u8 (0), .int .u8 (0), .int .u8 (0), .int .u8 (0), .int .u8 (0), .int .u8 (0), .int .u8 (0), .int .u8 (0), .int .u8 (0), .int .u8 (0), .int .u8 (0), .int .u8 (0), .int .u8 (0), .int .u8 (0), .int .u8 (0), .int .u8 (0), .int .u8 (0), .int .u8 (0), .int .u8 (0), .int .u8 (0), .int .u8 (0), .int .u8 (0), .int .u8 (0), .int .u8 (0)]), 32, 32),
  (61, (.int .u64 (0)), 1, 8),
  (66, (.int .u64 (0)), 1, 8),
  (72, (.int .u32 (0)), 1, 4),
  (75, (.int .u16 (0)), 1, 2),
  (77, (.slice none 0 0), 1, 24),
  (78, (.agg #[.int .u16 (0), .int .u16 (0)]), 2, 4),
  (79, (.agg #[.int .u16 (0), .int .u16 (0)]), 2, 4),
  (80, (.pointer none), 1, 8),
  (82, (.slice none 0 0), 1, 24),
  (84, (.agg #[.int .i32 (0), .int .i32 (0), .int .i32 (0)]), 3, 12),
  (85, (.agg #[.int .i32 (0), .int .i32 (0), .int .i32 (0)]), 3, 12),
  (86, (.agg #[.int .u32 (0), .int .u32 (0), .int .i32 (0), .int .i32 (0), .int .i32 (0)]), 5, 20),
  (87, (.agg #[.int .u32 (0), .int .u32 (0), .int .i32 (0), .int .i32 (0), .int .i32 (0)]), 5, 20),
  (91, (.agg #[]), 0, 0),
  (95, (.int .u8 (0)), 1, 1),
  (96, (.int .u8 (0)), 1, 1),
  (98, (.pointer none), 1, 8),
  (99, (.int .i32 (0)), 1, 4),
  (100, (.int .i32 (0)), 1, 4),
  (101, (.agg #[.int .u64 (0), .int .u64 (0), .int .u32 (0), .int .u8 (0), .int .u8 (0), .int .u8 (0), .int .u8 (0), .nilFunc, .pointer none, .int .i32 (0), .int .i32 (0)]), 11, 48),
  (102, (.agg #[.int .u64 (0), .int .u64 (0), .int .u32 (0), .int .u8 (0), .int .u8 (0), .int .u8 (0), .int .u8 (0), .nilFunc, .pointer none, .int .i32 (0), .int .i32 (0)]), 11, 48),
  (103, (.agg #[.int .u8 (0), .int .u8 (0), .int .u8 (0), .int .u8 (0), .int .u8 (0), .int .u8 (0), .int .u8 (0), .int .u8 (0), .int .u8 (0), .int .u8 (0), .int .u8 (0), .int .u8 (0), .int .u8 (0), .int .u8 (0), .int .u8 (0), .int .u8 (0)]), 16, 16),
  (104, (.agg #[.int .u8 (0), .int .u8 (0), .int .u8 (0), .int .u8 (0), .int .u8 (0), .int .u8 (0), .int .u8 (0), .int .u8 (0), .int .u8 (0), .int .u8 (0), .int .u8 (0), .int .u8 (0), .int .u8 (0), .int .u8 (0), .int .u8 (0), .int .u8 (0)]), 16, 16)]
theorem tabU_ok : okU Tryd.prog tabU := ⟨by kernel_rfl, by kernel_rfl, by kernel_rfl, by kernel_rfl, by kernel_rfl, by kernel_rfl, by kernel_rfl, by kernel_rfl, by kernel_rfl, by kernel_rfl, by kernel_rfl, by kernel_rfl, by kernel_rfl, by kernel_rfl, by kernel_rfl, by kernel_rfl, by kernel_rfl, by kernel_rfl, by kernel_rfl, by kernel_rfl, by kernel_rfl, by kernel_rfl, by kernel_rfl, by kernel_rfl, by kernel_rfl, by kernel_rfl, by kernel_rfl, by kernel_rfl, by kernel_rfl, by kernel_rfl, by kernel_rfl, by kernel_rfl, by kernel_rfl, by kernel_rfl, by kernel_rfl, by kernel_rfl, by kernel_rfl, by kernel_rfl, by kernel_rfl, by kernel_rfl, by kernel_rfl, by kernel_rfl, by kernel_rfl, by kernel_rfl, by kernel_rfl, by kernel_rfl, by kernel_rfl, trivial⟩
theorem tabI_ok : okI Tryd.prog tabI := ⟨by kernel_rfl, by kernel_rfl, by kernel_rfl, by kernel_rfl, by kernel_rfl, by kernel_rfl, by kernel_rfl, by kernel_rfl, by kernel_rfl, by kernel_rfl, by kernel_rfl, by kernel_rfl, by kernel_rfl, by kernel_rfl, by kernel_rfl, by kernel_rfl, by kernel_rfl, by kernel_rfl, by kernel_rfl, by kernel_rfl, by kernel_rfl, by kernel_rfl, by kernel_rfl, by kernel_rfl, by kernel_rfl, by kernel_rfl, by kernel_rfl, by kernel_rfl, by kernel_rfl, by kernel_rfl, by kernel_rfl, by kernel_rfl, by kernel_rfl, by kernel_rfl, by kernel_rfl, by kernel_rfl, by kernel_rfl, by kernel_rfl, by kernel_rfl, by kernel_rfl, by kernel_rfl, by kernel_rfl, by kernel_rfl, by kernel_rfl, by kernel_rfl, by kernel_rfl, by kernel_rfl, trivial⟩
def tabE : List Nat := [58, 59, 60, 78, 79, 84, 85, 86, 87, 103, 104]
theorem tabE_ok : okE Tryd.prog tabE := ⟨⟨by kernel_rfl, by kernel_rfl, by decide +kernel⟩, ⟨by kernel_rfl, by kernel_rfl, by decide +kernel⟩, ⟨by kernel_rfl, by kernel_rfl, by decide +kernel⟩, ⟨by kernel_rfl, by kernel_rfl, by decide +kernel⟩, ⟨by kernel_rfl, by kernel_rfl, by decide +kernel⟩, ⟨by kernel_rfl, by kernel_rfl, by decide +kernel⟩, ⟨by kernel_rfl, by kernel_rfl, by decide +kernel⟩, ⟨by kernel_rfl, by kernel_rfl, by decide +kernel⟩, ⟨by kernel_rfl, by kernel_rfl, by decide +kernel⟩, ⟨by kernel_rfl, by kernel_rfl, by decide +kernel⟩, ⟨by kernel_rfl, by kernel_rfl, by decide +kernel⟩, trivial⟩
def cx0 : Cx := { U := tabU, I := tabI, C := [], H := [], N := [], L := [], E := tabE }
theorem cx0_ok : cx0.ok Tryd.prog := ⟨tabU_ok, tabI_ok, fun f C h => by simp [cx0, fnd] at h, fun f C h => by simp [cx0, fnd] at h, fun f T C h => by simp [cx0, fnd] at h, rfl, fun f C h => by simp [cx0, fnd] at h, tabE_ok⟩
end Go.Proofs.YthomfpdigmeheaaDoorAv
namespace Go.Proofs
open Go.Shelf
def Tryd.lays196_ren : Go.Shelf.Ren := ⟨fun | 196 => 25 | 259 => 36 | n => n, fun | 9 => 9 | 4 => 4 | 3 => 3 | 5 => 5 | 12 => 12 | 119 => 57 | 0 => 0 | 46 => 61 | 139 => 60 | 138 => 59 | 53 => 66 | n => n, fun | 3 => 0 | 4 => 1 | n => n⟩
theorem Tryd.lays196 : Go.Proofs.Lays.n196 Tryd.prog Tryd.lays196_ren := {
  mixed := by kernel_rfl
  f196 := Tryd.func25.trans (congrArg some (by kernel_rfl))
  f259 := Tryd.func36.trans (congrArg some (by kernel_rfl))
  t0 := Tryd.underlying0
  a0 := Tryd.isAgg0
  z0 := Tryd.sizeOf0
  v0 := Tryd.zeroValue0
  t3 := Tryd.underlying3
  a3 := Tryd.isAgg3
  z3 := Tryd.sizeOf3
  v3 := Tryd.zeroValue3
  t4 := Tryd.underlying4
  a4 := Tryd.isAgg4
  z4 := Tryd.sizeOf4
  v4 := Tryd.zeroValue4
  t5 := Tryd.underlying5
  a5 := Tryd.isAgg5
  z5 := Tryd.sizeOf5
  v5 := Tryd.zeroValue5
  t9 := Tryd.underlying9
  a9 := Tryd.isAgg9
  z9 := Tryd.sizeOf9
  v9 := Tryd.zeroValue9
  t12 := Tryd.underlying12
  a12 := Tryd.isAgg12
  z12 := Tryd.sizeOf12
  v12 := Tryd.zeroValue12
  t46 := Tryd.underlying61
  a46 := Tryd.isAgg61
  z46 := Tryd.sizeOf61
  v46 := Tryd.zeroValue61
  t53 := Tryd.underlying66
  a53 := Tryd.isAgg66
  z53 := Tryd.sizeOf66
  v53 := Tryd.zeroValue66
  t119 := Tryd.underlying57
  a119 := Tryd.isAgg57
  z119 := Tryd.sizeOf57
  t138 := Tryd.underlying59
  a138 := Tryd.isAgg59
  z138 := Tryd.sizeOf59
  v138 := Tryd.zeroValue59
  t139 := Tryd.underlying60
  a139 := Tryd.isAgg60
  z139 := Tryd.sizeOf60
  v139 := Tryd.zeroValue60
  g3 := by kernel_rfl
  g4 := by kernel_rfl }
open Go.RowKit Go.Lib in
theorem Tryd.utf8_ValidString (s : ByteArray) (w : World) (hs : s.size ≤ 9223372036854775807) (hT : Lib.Utf8Tabs 0 1 w) :
    Calls Tryd.prog 25 #[.string s] w fun e w' => e = .returned (.bool (Lib.validD s.data.toList)) ∧ Below w.heap.size w w' := Any.utf8_ValidString Tryd.lays196 s w hs hT
def Tryd.lays103_ren : Go.Shelf.Ren := ⟨fun | 103 => 34 | 210 => 40 | 206 => 33 | n => n, fun | 9 => 9 | 4 => 4 | 24 => 44 | 3 => 3 | n => n, fun | n => n⟩
theorem Tryd.lays103 : Go.Proofs.Lays.n103 Tryd.prog Tryd.lays103_ren := {
  mixed := by kernel_rfl
  f103 := Tryd.func34.trans (congrArg some (by kernel_rfl))
  f206 := Tryd.func33.trans (congrArg some (by kernel_rfl))
  f210 := Tryd.func40.trans (congrArg some (by kernel_rfl))
  t3 := Tryd.underlying3
  a3 := Tryd.isAgg3
  z3 := Tryd.sizeOf3
  v3 := Tryd.zeroValue3
  t4 := Tryd.underlying4
  a4 := Tryd.isAgg4
  z4 := Tryd.sizeOf4
  v4 := Tryd.zeroValue4
  t9 := Tryd.underlying9
  a9 := Tryd.isAgg9
  z9 := Tryd.sizeOf9
  v9 := Tryd.zeroValue9
  t24 := Tryd.underlying44
  a24 := Tryd.isAgg44
  z24 := Tryd.sizeOf44
  v24 := Tryd.zeroValue44 }
open Go.RowKit in
theorem Tryd.strings_CutPrefix (s p : ByteArray) (w : World) :
    Calls Tryd.prog 34 #[.string s, .string p] w fun e w' => e = .returned (.tuple #[.string ⟨(Lib.trimPrefix s.data.toList p.data.toList).toArray⟩, .bool (Lib.hasPrefix s.data.toList p.data.toList)]) ∧ w' = w := Any.strings_CutPrefix Tryd.lays103 s p w
def Tryd.lays104_ren : Go.Shelf.Ren := ⟨fun | 104 => 17 | 211 => 32 | 207 => 28 | n => n, fun | 9 => 9 | 4 => 4 | 24 => 44 | 3 => 3 | n => n, fun | n => n⟩
theorem Tryd.lays104 : Go.Proofs.Lays.n104 Tryd.prog Tryd.lays104_ren := {
  mixed := by kernel_rfl
  f104 := Tryd.func17.trans (congrArg some (by kernel_rfl))
  f207 := Tryd.func28.trans (congrArg some (by kernel_rfl))
  f211 := Tryd.func32.trans (congrArg some (by kernel_rfl))
  t3 := Tryd.underlying3
  a3 := Tryd.isAgg3
  z3 := Tryd.sizeOf3
  v3 := Tryd.zeroValue3
  t4 := Tryd.underlying4
  a4 := Tryd.isAgg4
  z4 := Tryd.sizeOf4
  v4 := Tryd.zeroValue4
  t9 := Tryd.underlying9
  a9 := Tryd.isAgg9
  z9 := Tryd.sizeOf9
  v9 := Tryd.zeroValue9
  t24 := Tryd.underlying44
  a24 := Tryd.isAgg44
  z24 := Tryd.sizeOf44
  v24 := Tryd.zeroValue44 }
open Go.RowKit in
theorem Tryd.strings_CutSuffix (s p : ByteArray) (w : World) (hs : s.size ≤ 9223372036854775807) :
    Calls Tryd.prog 17 #[.string s, .string p] w fun e w' => e = .returned (.tuple #[.string ⟨(Lib.trimSuffix s.data.toList p.data.toList).toArray⟩, .bool (Lib.hasSuffix s.data.toList p.data.toList)]) ∧ w' = w := Any.strings_CutSuffix Tryd.lays104 s p w hs
def Tryd.lays138_ren : Go.Shelf.Ren := ⟨fun | 138 => 16 | 195 => 29 | 218 => 30 | 143 => 31 | 219 => 39 | 217 => 46 | 225 => 47 | 224 => 48 | 267 => 49 | 266 => 53 | 314 => 54 | n => n, fun | 9 => 9 | 3 => 3 | 4 => 4 | 5 => 5 | 0 => 0 | 46 => 61 | 146 => 73 | 51 => 72 | n => n, fun | 1 => 2 | n => n⟩
theorem Tryd.lays138 : Go.Proofs.Lays.n138 Tryd.prog Tryd.lays138_ren := {
  mixed := by kernel_rfl
  f138 := Tryd.func16.trans (congrArg some (by kernel_rfl))
  f143 := Tryd.func31.trans (congrArg some (by kernel_rfl))
  f195 := Tryd.func29.trans (congrArg some (by kernel_rfl))
  f217 := Tryd.func46.trans (congrArg some (by kernel_rfl))
  f218 := Tryd.func30.trans (congrArg some (by kernel_rfl))
  f219 := Tryd.func39.trans (congrArg some (by kernel_rfl))
  f224 := Tryd.func48.trans (congrArg some (by kernel_rfl))
  f225 := Tryd.func47.trans (congrArg some (by kernel_rfl))
  f266 := Tryd.func53.trans (congrArg some (by kernel_rfl))
  f267 := Tryd.func49.trans (congrArg some (by kernel_rfl))
  f314 := Tryd.func54.trans (congrArg some (by kernel_rfl))
  t0 := Tryd.underlying0
  a0 := Tryd.isAgg0
  z0 := Tryd.sizeOf0
  v0 := Tryd.zeroValue0
  t3 := Tryd.underlying3
  a3 := Tryd.isAgg3
  z3 := Tryd.sizeOf3
  v3 := Tryd.zeroValue3
  t4 := Tryd.underlying4
  a4 := Tryd.isAgg4
  z4 := Tryd.sizeOf4
  v4 := Tryd.zeroValue4
  t5 := Tryd.underlying5
  a5 := Tryd.isAgg5
  z5 := Tryd.sizeOf5
  v5 := Tryd.zeroValue5
  t9 := Tryd.underlying9
  a9 := Tryd.isAgg9
  z9 := Tryd.sizeOf9
  v9 := Tryd.zeroValue9
  t46 := Tryd.underlying61
  a46 := Tryd.isAgg61
  z46 := Tryd.sizeOf61
  v46 := Tryd.zeroValue61
  t51 := Tryd.underlying72
  a51 := Tryd.isAgg72
  z51 := Tryd.sizeOf72
  v51 := Tryd.zeroValue72
  t146 := Tryd.underlying73
  a146 := Tryd.isAgg73
  z146 := Tryd.sizeOf73
  v146 := Tryd.zeroValue73
  g1 := by kernel_rfl }
open Go.RowKit Go.Lib in
theorem Tryd.strings_Count_one (s : ByteArray) (c : UInt8) (w : World) :
    Calls Tryd.prog 16 #[.string s, .string ⟨#[c]⟩] w fun e w' => e = .returned (.int .i64 (Lib.countByte s.data.toList c)) ∧ w' = w := Any.strings_Count_one Tryd.lays138 s c w
def Tryd.lays149_ren : Go.Shelf.Ren := ⟨fun | 149 => 41 | 222 => 50 | n => n, fun | 9 => 9 | 5 => 5 | 3 => 3 | 4 => 4 | n => n, fun | n => n⟩
theorem Tryd.lays149 : Go.Proofs.Lays.n149 Tryd.prog Tryd.lays149_ren := {
  mixed := by kernel_rfl
  f149 := Tryd.func41.trans (congrArg some (by kernel_rfl))
  f222 := Tryd.func50.trans (congrArg some (by kernel_rfl))
  t3 := Tryd.underlying3
  a3 := Tryd.isAgg3
  z3 := Tryd.sizeOf3
  v3 := Tryd.zeroValue3
  t4 := Tryd.underlying4
  a4 := Tryd.isAgg4
  z4 := Tryd.sizeOf4
  v4 := Tryd.zeroValue4
  t5 := Tryd.underlying5
  a5 := Tryd.isAgg5
  z5 := Tryd.sizeOf5
  v5 := Tryd.zeroValue5
  t9 := Tryd.underlying9
  a9 := Tryd.isAgg9
  z9 := Tryd.sizeOf9
  v9 := Tryd.zeroValue9 }
open Go.RowKit Go.Lib in
theorem Tryd.strings_LastIndexByte (s : ByteArray) (c : Int) (hs : s.size < 4611686018427387904) (w : World) :
    Calls Tryd.prog 41 #[.string s, .int .u8 c] w fun e w' => e = .returned (.int .i64 (Lib.lastIndexByte s c)) ∧ w' = w := Any.strings_LastIndexByte Tryd.lays149 s c hs w
def Tryd.lays99_ren : Go.Shelf.Ren := ⟨fun | 99 => 23 | 206 => 33 | n => n, fun | 9 => 9 | 4 => 4 | 3 => 3 | n => n, fun | n => n⟩
theorem Tryd.lays99 : Go.Proofs.Lays.n99 Tryd.prog Tryd.lays99_ren := {
  mixed := by kernel_rfl
  f99 := Tryd.func23.trans (congrArg some (by kernel_rfl))
  f206 := Tryd.func33.trans (congrArg some (by kernel_rfl))
  t3 := Tryd.underlying3
  a3 := Tryd.isAgg3
  z3 := Tryd.sizeOf3
  v3 := Tryd.zeroValue3
  t4 := Tryd.underlying4
  a4 := Tryd.isAgg4
  z4 := Tryd.sizeOf4
  v4 := Tryd.zeroValue4
  t9 := Tryd.underlying9
  a9 := Tryd.isAgg9
  z9 := Tryd.sizeOf9
  v9 := Tryd.zeroValue9 }
open Go.RowKit Go.Lib in
theorem Tryd.strings_HasPrefix (s p : ByteArray) (w : World) :
    Calls Tryd.prog 23 #[.string s, .string p] w fun e w' => e = .returned (.bool (Lib.hasPrefix s.data.toList p.data.toList)) ∧ w' = w := Any.strings_HasPrefix Tryd.lays99 s p w
def Tryd.lays100_ren : Go.Shelf.Ren := ⟨fun | 100 => 14 | 207 => 28 | n => n, fun | 9 => 9 | 4 => 4 | 3 => 3 | n => n, fun | n => n⟩
theorem Tryd.lays100 : Go.Proofs.Lays.n100 Tryd.prog Tryd.lays100_ren := {
  mixed := by kernel_rfl
  f100 := Tryd.func14.trans (congrArg some (by kernel_rfl))
  f207 := Tryd.func28.trans (congrArg some (by kernel_rfl))
  t3 := Tryd.underlying3
  a3 := Tryd.isAgg3
  z3 := Tryd.sizeOf3
  v3 := Tryd.zeroValue3
  t4 := Tryd.underlying4
  a4 := Tryd.isAgg4
  z4 := Tryd.sizeOf4
  v4 := Tryd.zeroValue4
  t9 := Tryd.underlying9
  a9 := Tryd.isAgg9
  z9 := Tryd.sizeOf9
  v9 := Tryd.zeroValue9 }
open Go.RowKit Go.Lib in
theorem Tryd.strings_HasSuffix (s p : ByteArray) (w : World) (hs : s.size ≤ 9223372036854775807) :
    Calls Tryd.prog 14 #[.string s, .string p] w fun e w' => e = .returned (.bool (Lib.hasSuffix s.data.toList p.data.toList)) ∧ w' = w := Any.strings_HasSuffix Tryd.lays100 s p w hs
def Tryd.lays164_ren : Go.Shelf.Ren := ⟨fun | 164 => 44 | 197 => 51 | 239 => 52 | 260 => 55 | 274 => 56 | 275 => 57 | n => n, fun | 9 => 9 | 4 => 4 | 3 => 3 | 5 => 5 | 0 => 0 | 21 => 21 | 105 => 69 | 156 => 76 | 49 => 75 | 157 => 77 | 46 => 61 | 159 => 79 | 162 => 82 | 160 => 80 | 119 => 57 | 139 => 60 | 138 => 59 | 208 => 87 | 51 => 72 | 206 => 85 | n => n, fun | 11 => 3 | 12 => 4 | 13 => 5 | 3 => 0 | 4 => 1 | n => n⟩
theorem Tryd.lays164 : Go.Proofs.Lays.n164 Tryd.prog Tryd.lays164_ren := {
  mixed := by kernel_rfl
  f164 := Tryd.func44.trans (congrArg some (by kernel_rfl))
  f197 := Tryd.func51.trans (congrArg some (by kernel_rfl))
  f239 := Tryd.func52.trans (congrArg some (by kernel_rfl))
  f260 := Tryd.func55.trans (congrArg some (by kernel_rfl))
  f274 := Tryd.func56.trans (congrArg some (by kernel_rfl))
  f275 := Tryd.func57.trans (congrArg some (by kernel_rfl))
  t0 := Tryd.underlying0
  a0 := Tryd.isAgg0
  z0 := Tryd.sizeOf0
  v0 := Tryd.zeroValue0
  t3 := Tryd.underlying3
  a3 := Tryd.isAgg3
  z3 := Tryd.sizeOf3
  v3 := Tryd.zeroValue3
  t4 := Tryd.underlying4
  a4 := Tryd.isAgg4
  z4 := Tryd.sizeOf4
  v4 := Tryd.zeroValue4
  t5 := Tryd.underlying5
  a5 := Tryd.isAgg5
  z5 := Tryd.sizeOf5
  v5 := Tryd.zeroValue5
  t9 := Tryd.underlying9
  a9 := Tryd.isAgg9
  z9 := Tryd.sizeOf9
  v9 := Tryd.zeroValue9
  t21 := Tryd.underlying21
  a21 := Tryd.isAgg21
  z21 := Tryd.sizeOf21
  v21 := Tryd.zeroValue21
  t46 := Tryd.underlying61
  a46 := Tryd.isAgg61
  z46 := Tryd.sizeOf61
  v46 := Tryd.zeroValue61
  t49 := Tryd.underlying75
  a49 := Tryd.isAgg75
  z49 := Tryd.sizeOf75
  v49 := Tryd.zeroValue75
  t51 := Tryd.underlying72
  a51 := Tryd.isAgg72
  z51 := Tryd.sizeOf72
  v51 := Tryd.zeroValue72
  t105 := Tryd.underlying69
  a105 := Tryd.isAgg69
  z105 := Tryd.sizeOf69
  v105 := Tryd.zeroValue69
  t119 := Tryd.underlying57
  a119 := Tryd.isAgg57
  z119 := Tryd.sizeOf57
  t138 := Tryd.underlying59
  a138 := Tryd.isAgg59
  z138 := Tryd.sizeOf59
  v138 := Tryd.zeroValue59
  t139 := Tryd.underlying60
  a139 := Tryd.isAgg60
  z139 := Tryd.sizeOf60
  v139 := Tryd.zeroValue60
  t156 := Tryd.underlying76
  a156 := Tryd.isAgg76
  z156 := Tryd.sizeOf76
  t157 := Tryd.underlying77
  a157 := Tryd.isAgg77
  z157 := Tryd.sizeOf77
  v157 := Tryd.zeroValue77
  t159 := Tryd.underlying79
  a159 := Tryd.isAgg79
  z159 := Tryd.sizeOf79
  v159 := Tryd.zeroValue79
  t160 := Tryd.underlying80
  a160 := Tryd.isAgg80
  z160 := Tryd.sizeOf80
  v160 := Tryd.zeroValue80
  t162 := Tryd.underlying82
  a162 := Tryd.isAgg82
  z162 := Tryd.sizeOf82
  v162 := Tryd.zeroValue82
  t206 := Tryd.underlying85
  a206 := Tryd.isAgg85
  z206 := Tryd.sizeOf85
  v206 := Tryd.zeroValue85
  t208 := Tryd.underlying87
  a208 := Tryd.isAgg87
  z208 := Tryd.sizeOf87
  v208 := Tryd.zeroValue87
  g3 := by kernel_rfl
  g4 := by kernel_rfl
  g11 := by kernel_rfl
  g12 := by kernel_rfl
  g13 := by kernel_rfl }
open Go.RowKit Go.Lib in
theorem Tryd.strings_EqualFold (s t : ByteArray) (w : World) (hs : s.size < 4294967281) (has : ∀ (j : Nat) b, s.data.toList[j]? = some b → b.toNat < 128) (hat : ∀ (j : Nat) b, t.data.toList[j]? = some b → b.toNat < 128) :
    Calls Tryd.prog 44 #[.string s, .string t] w fun e w' => e = .returned (.bool (Lib.equalFold s.data.toList t.data.toList)) ∧ w' = w := Any.strings_EqualFold Tryd.lays164 s t w hs has hat
end Go.Proofs
set_option linter.unusedVariables false
set_option linter.unusedSimpArgs false
namespace Go.Proofs.YthomfpdigmeheaaDoorAv
open Go Go.RowKit
def mk8 (l : List UInt8) : ByteArray := ⟨l.toArray⟩
theorem mk8_size (l : List UInt8) : (mk8 l).size = l.length := rfl
theorem mk8_data (l : List UInt8) : (mk8 l).data.toList = l := rfl
theorem data_mk8 (b : ByteArray) : mk8 b.data.toList = b := rfl
theorem size_data (b : ByteArray) : b.size = b.data.toList.length := by rw [Array.length_toList]; rfl
def intKO (k : IntKind) : XV → Option Int
  | .v (.p (.int k' i)) => match kb k' k with
    | true => some i
    | false => none
  | _ => none
theorem intKO_eq {k : IntKind} {x : XV} {i : Int} (h : intKO k x = some i) : x = .v (.p (.int k i)) := by
  unfold intKO at h
  split at h
  · split at h
    · rename_i hk; rw [kb_eq hk, Option.some.inj h]
    · cases h
  · cases h
/-- A number of a kind. -/
def dIK (k : IntKind) : Dc Int := ⟨fun x => match intKO k x with | some i => some ([], i) | none => none, fun i => .v (.p (.int k i))⟩
theorem dIK_eq (k : IntKind) : DcEq (dIK k) := fun x cs r h _ => by
  simp only [dIK] at h
  split at h
  · rename_i h1
    simp only [Option.some.injEq, Prod.mk.injEq] at h
    obtain ⟨-, rfl⟩ := h
    rw [intKO_eq h1]
    exact ⟨rfl, rfl, rfl⟩
  · cases h
def cutPreB (s p : ByteArray) : ByteArray × Bool := (mk8 (Lib.trimPrefix s.data.toList p.data.toList), Lib.hasPrefix s.data.toList p.data.toList)
def cutPreC : CT := C2 dStr dStr (fun _ _ => []) fun s p => .tup [XT (cutPreB s p).1, XB (cutPreB s p).2]
theorem cutPre_ok : CTok Tryd.prog 34 cutPreC := by
  refine ct_str2 Tryd.func34 rfl (by decide) (fun a b => by simp [XV.pd, pdL]) fun s p hc L w hg hfr => ?_
  refine (Tryd.strings_CutPrefix s p w).mono fun e w' ⟨he, hw⟩ => ⟨_, he, ?_, Below.same' hw⟩
  simp only [toAV, toAVL, VS]
  exact ⟨[_, _], rfl, by simp [VSL, VS, cutPreB, mk8]⟩
def cutSufB (s p : ByteArray) : ByteArray × Bool := (mk8 (Lib.trimSuffix s.data.toList p.data.toList), Lib.hasSuffix s.data.toList p.data.toList)
def cutSufC : CT := C2 dStr dStr (fun s _ => [s.size ≤ 1000000000]) fun s p => .tup [XT (cutSufB s p).1, XB (cutSufB s p).2]
theorem cutSuf_ok : CTok Tryd.prog 17 cutSufC := by
  refine ct_str2 Tryd.func17 rfl (by decide) (fun a b => by simp [XV.pd, pdL]) fun s p hc L w hg hfr => ?_
  have hs : s.size ≤ 1000000000 := hc _ (by simp)
  refine (Tryd.strings_CutSuffix s p w (by omega)).mono fun e w' ⟨he, hw⟩ => ⟨_, he, ?_, Below.same' hw⟩
  simp only [toAV, toAVL, VS]
  exact ⟨[_, _], rfl, by simp [VSL, VS, cutSufB, mk8]⟩
def hasPreB (s p : ByteArray) : Bool := Lib.hasPrefix s.data.toList p.data.toList
def hasPreC : CT := C2 dStr dStr (fun _ _ => []) fun s p => XB (hasPreB s p)
theorem hasPre_ok : CTok Tryd.prog 23 hasPreC := by
  refine ct_str2 Tryd.func23 rfl (by decide) (fun a b => by simp [XV.pd]) fun s p hc L w hg hfr => ?_
  refine (Tryd.strings_HasPrefix s p w).mono fun e w' ⟨he, hw⟩ => ⟨_, he, ?_, Below.same' hw⟩
  simp [toAV, VS, hasPreB]
/-- How often a text of one byte stands in a text. -/
def cntB (s p : ByteArray) : Int := match p.data.toList with
  | [c] => (Lib.countByte s.data.toList c : Int)
  | _ => 0
def cntC : CT := C2 dStr dStr (fun _ p => [p.size = 1]) fun s p => XI (cntB s p)
theorem cnt_ok : CTok Tryd.prog 16 cntC := by
  refine ct_str2 Tryd.func16 rfl (by decide) (fun a b => by simp [XV.pd]) fun s p hc L w hg hfr => ?_
  have hp : p.size = 1 := hc _ (by simp)
  obtain ⟨c, rfl⟩ : ∃ c, p = ⟨#[c]⟩ := by
    obtain ⟨⟨l⟩⟩ := p
    match l, hp with
    | [c], _ => exact ⟨c, rfl⟩
  refine (Tryd.strings_Count_one s c w).mono fun e w' ⟨he, hw⟩ => ⟨_, he, ?_, Below.same' hw⟩
  simp [toAV, VS, cntB]
def eqfB (s t : ByteArray) : Bool := Lib.equalFold s.data.toList t.data.toList
/-- Is a text of ASCII alone? -/
def ascB (s : ByteArray) : Prop := ∀ b ∈ s.data.toList, b.toNat < 128
def eqfC : CT := C2 dStr dStr (fun s t => [s.size ≤ 1000000, ascB s, ascB t]) fun s t => XB (eqfB s t)
theorem eqf_ok : CTok Tryd.prog 44 eqfC := by
  refine ct_str2 Tryd.func44 rfl (by decide) (fun a b => by simp [XV.pd]) fun s t hc L w hg hfr => ?_
  have h1 : s.size ≤ 1000000 := hc _ (by simp)
  have h2 : ascB s := hc _ (by simp)
  have h3 : ascB t := hc _ (by simp)
  refine (Tryd.strings_EqualFold s t w (by omega) (fun j b hb => h2 b (List.mem_of_getElem? hb)) (fun j b hb => h3 b (List.mem_of_getElem? hb))).mono fun e w' ⟨he, hw⟩ => ⟨_, he, ?_, Below.same' hw⟩
  simp [toAV, VS, eqfB]
def validB (s : ByteArray) : Bool := Lib.validD s.data.toList
theorem utf8_glb {L : GH} {w : World} (hg : Glb L w) : Lib.Utf8Tabs 0 1 w := by
  obtain ⟨-, -, h, -⟩ := hg 0 _ (List.mem_cons_self ..)
  obtain ⟨-, -, k, -⟩ := hg 1 _ (List.mem_cons_of_mem _ (List.mem_cons_self ..))
  have h1 : ∀ c : Fin 256, (((glbT.head?.map (·.2)).getD [])[c.val]?).map (fun v => match v with | .val (.int .u8 z) => z == (Lib.firstT c.val : Int) | _ => false) = some true := by decide +kernel
  have h2 : ∀ i : Fin 16, (((glbT.tail.head?.map (·.2)).getD [])[2 * i.val]?).map (fun v => match v with | .val (.int .u8 z) => z == (Lib.accLo i.val : Int) | _ => false) = some true ∧
      (((glbT.tail.head?.map (·.2)).getD [])[2 * i.val + 1]?).map (fun v => match v with | .val (.int .u8 z) => z == (Lib.accHi i.val : Int) | _ => false) = some true := by decide +kernel
  have go : ∀ (g : Nat) (l : List GV) (n : Nat) (z : Int), (∀ (i : Nat) (v : GV), l[i]? = some v → ∃ x, w.cell? ⟨g, i, none⟩ = some x ∧ v.is x ∧ x.oneCell' = true) → (l[n]?).map (fun v => match v with | .val (.int .u8 y) => y == z | _ => false) = some true →
      w.cell? ⟨g, n, none⟩ = some (.int .u8 z) := by
    intro g l n z hl hn
    cases hv : l[n]? with
    | none => rw [hv] at hn; cases hn
    | some v =>
      obtain ⟨x, hx, hi, -⟩ := hl n v hv
      rw [hv] at hn
      simp only [Option.map_some, Option.some.injEq] at hn
      split at hn
      · rename_i y
        have : y = z := by simpa using hn
        subst this
        simp only [GV.is] at hi
        rw [hx, hi]
      · cases hn
  exact ⟨fun c hc => go _ _ _ _ h (h1 ⟨c, hc⟩), fun i hi => ⟨go _ _ _ _ k (h2 ⟨i, hi⟩).1, go _ _ _ _ k (h2 ⟨i, hi⟩).2⟩⟩
def validC : CT := C1 dStr (fun s => [s.size ≤ 1000000000]) fun s => XB (validB s)
theorem valid_ok : CTok Tryd.prog 25 validC := by
  refine ct_str1 Tryd.func25 rfl (by decide) (fun a => by simp [XV.pd]) fun s hc L w hg hfr => ?_
  have h1 : s.size ≤ 1000000000 := hc _ (by simp)
  refine (Tryd.utf8_ValidString s w (by omega) (utf8_glb hg)).mono fun e w' ⟨he, hw⟩ => ⟨_, he, ?_, hw⟩
  simp [toAV, VS, validB]
/-- Where a byte stands last. -/
def lastB (s : ByteArray) (c : Int) : Int := Lib.lastIndexByte s c
def lastC : CT := C2 dStr (dIK .u8) (fun s _ => [s.size ≤ 1000000]) fun s c => XI (lastB s c)
theorem last_ok : CTok Tryd.prog 41 lastC :=
  ct_lib2 Tryd.func41 rfl (by decide) dStr_eq.ok (dIK_eq .u8).ok (fun a b => rfl) fun s c hc L w x y hg hfr hx hy => by
    have hs : s.size ≤ 1000000 := hc _ (by simp)
    simp only [dStr, dIK, toAV, VS] at hx hy
    subst hx hy
    refine (Tryd.strings_LastIndexByte s c (by omega) w).mono fun e w' ⟨he, hw⟩ => ⟨_, he, ?_, Below.same' hw⟩
    simp [toAV, VS, lastB]
end Go.Proofs.YthomfpdigmeheaaDoorAv
set_option linter.unusedVariables false
set_option linter.unusedSimpArgs false
namespace Go.Proofs.YthomfpdigmeheaaDoorAv
open Go Go.RowKit Go.ChangeShapes Go.WideShapes
theorem cells_strs_VSL (w : World) : ∀ l : List ByteArray, VSL noL w (l.map strAV) (l.map fun s => Value.string s)
  | [] => by simp [VSL]
  | s :: l => by simp only [List.map_cons, VSL, VS, strAV]; exact ⟨trivial, cells_strs_VSL w l⟩
theorem weightsAll_strs {H : Type} {P : Program} {e : TypeId} : ∀ {l : List ByteArray} {s : ByteArray}, s ∈ l → s.data.toList.length ∈ DataW.weightsAll (H := H) P e (strs l)
  | [], s, h => by cases h
  | x :: l, s, h => by
    rcases List.mem_cons.1 h with rfl | h
    · simp [strs, DataW.weightsAll, DataW.weights]
    · have := weightsAll_strs (H := H) (P := P) (e := e) h
      simp only [strs, List.map_cons, DataW.weightsAll, List.mem_append] at this ⊢
      exact .inr this
theorem open_strsAV {H : Type} {enc : TypeId × Value → H} {P : Program} {W : World} {t e : TypeId} {v : Value} {d : DataW H} {p : List MemPlace} {ts : List TypeId} {ds : List (DataW H)} {j : Nat}
    (ht : P.underlying t = some (.slice e)) (he : P.underlying e = some .string) (hc : P.cellsOf e = 1) (hb : P.bytesOf e = 16) (hv : ∃ a len cap, v = .slice a len cap)
    (h : DataW.Trod enc P W 0 (fun _ => true) true t v d p) (hsz : (DataW.weightsEach P ts ds).all (· ≤ reachBytes) = true) (htj : ts[j]? = some t) (hdj : ds[j]? = some d) :
    ∃ l : List ByteArray, VS noL W (strsAV l) v ∧ l.length ≤ 8796093022208 ∧ ∀ s ∈ l, s.size ≤ 140737488351232 := by
  obtain ⟨a0, len0, cap0, rfl⟩ := hv
  obtain ⟨fuel, hf⟩ := h
  rcases open_strings ht he hc hf with ⟨hcs, hx⟩ | ⟨a, len, cap, ss, hcs, _, hl, hm, hz, hx, hcell, hs⟩
  · refine ⟨[], ?_, by simp, by simp⟩
    simp [Value.cells] at hcs
    obtain ⟨rfl, rfl, rfl⟩ := hcs
    simp only [strsAV, VS, List.length_nil, List.map_nil]
    exact ⟨none, 0, [], rfl, Nat.le_refl _, .inl rfl, by simp [VSL]⟩
  · simp [Value.cells] at hcs
    obtain ⟨rfl, rfl, rfl⟩ := hcs
    simp only [Prod.mk.injEq] at hx
    obtain ⟨rfl, _⟩ := hx
    have hlen : ss.length = cap0 := by simpa using hz
    have hlt : (ss.take len0).length = len0 := by rw [List.length_take]; omega
    have hw := sized_slice hsz htj hdj ht
    have hwl : ∀ s ∈ ss.take len0, s.size ≤ 140737488351232 := by
      intro s hsm
      have hmem : s.data.toList.length ∈ DataW.weightsEach P ts ds := by
        refine DataW.weights_mem_each htj hdj _ ?_
        simp only [DataW.weights, ht, List.mem_cons, List.mem_append]
        exact .inr (.inl (weightsAll_strs hsm))
      have := List.all_eq_true.1 hsz _ hmem
      have e2 : s.data.toList.length = s.size := by rw [Array.length_toList]; rfl
      rw [e2] at this
      exact of_decide_eq_true this
    refine ⟨ss.take len0, ?_, ?_, hwl⟩
    · simp only [strsAV, VS, hlt]
      refine ⟨some a, cap0, (ss.take len0).map fun s => Value.string s, rfl, hl, .inr ⟨a, rfl, rfl, ?_, ?_⟩, cells_strs_VSL W _⟩
      · intro v hv
        obtain ⟨s, _, rfl⟩ := List.mem_map.1 hv
        rfl
      · intro i v hi
        rw [List.getElem?_map] at hi
        cases hg : (ss.take len0)[i]? with
        | none => rw [hg] at hi; cases hi
        | some s =>
          rw [hg] at hi
          obtain rfl := Option.some.inj hi
          have hi2 : i < (ss.take len0).length := (List.getElem?_eq_some_iff.1 hg).1
          have := hcell i (by omega)
          rw [this]
          rw [List.getElem?_take, if_pos (by omega)] at hg
          simp [List.getD_eq_getElem?_getD, hg]
    · rw [hlt]
      rw [hb] at hw
      simp only [strs, List.length_map, List.length_take, List.length_drop, reachBytes] at hw
      omega
def intsAV (l : List Int) : AV := .fz l.length (l.map intAV)
theorem cells_ints_VSL (w : World) : ∀ l : List Int, VSL noL w (l.map intAV) (l.map fun s => Value.int .i64 s)
  | [] => by simp [VSL]
  | s :: l => by simp only [List.map_cons, VSL, VS, intAV]; exact ⟨trivial, cells_ints_VSL w l⟩
theorem open_intsAV {H : Type} {enc : TypeId × Value → H} {P : Program} {W : World} {t e : TypeId} {v : Value} {d : DataW H} {p : List MemPlace}
    (ht : P.underlying t = some (.slice e)) (he : P.underlying e = some (.int .i64)) (hc : P.cellsOf e = 1) (hv : ∃ a len cap, v = .slice a len cap)
    (h : DataW.Trod enc P W 0 (fun _ => true) true t v d p) :
    ∃ l : List Int, VS noL W (intsAV l) v := by
  obtain ⟨a0, len0, cap0, rfl⟩ := hv
  obtain ⟨fuel, hf⟩ := h
  rcases Go.ChangeShapes.open_ints ht he hc hf with ⟨hcs, hx⟩ | ⟨a, len, cap, ss, hcs, _, hl, hm, hz, hx, hcell, hs⟩
  · refine ⟨[], ?_⟩
    simp [Value.cells] at hcs
    obtain ⟨rfl, rfl, rfl⟩ := hcs
    simp only [intsAV, VS, List.length_nil, List.map_nil]
    exact ⟨none, 0, [], rfl, Nat.le_refl _, .inl rfl, by simp [VSL]⟩
  · simp [Value.cells] at hcs
    obtain ⟨rfl, rfl, rfl⟩ := hcs
    have hlen : ss.length = cap0 := by simpa using hz
    have hlt : (ss.take len0).length = len0 := by rw [List.length_take]; omega
    refine ⟨ss.take len0, ?_⟩
    simp only [intsAV, VS, hlt]
    refine ⟨some a, cap0, (ss.take len0).map fun s => Value.int .i64 s, rfl, hl, .inr ⟨a, rfl, rfl, ?_, ?_⟩, cells_ints_VSL W _⟩
    · intro v hv
      obtain ⟨s, _, rfl⟩ := List.mem_map.1 hv
      rfl
    · intro i v hi
      rw [List.getElem?_map] at hi
      cases hg : (ss.take len0)[i]? with
      | none => rw [hg] at hi; cases hi
      | some s =>
        rw [hg] at hi
        obtain rfl := Option.some.inj hi
        have hi2 : i < (ss.take len0).length := (List.getElem?_eq_some_iff.1 hg).1
        have := hcell i (by omega)
        rw [this]
        rw [List.getElem?_take, if_pos (by omega)] at hg
        simp [List.getD_eq_getElem?_getD, hg]
theorem sizes_le {k : Nat} : ∀ {l : List ByteArray}, (∀ s ∈ l, s.size ≤ k) → (l.map (·.size)).sum ≤ l.length * k
  | [], _ => by simp
  | x :: l, h => by
    have h1 := h x (by simp)
    have h2 := sizes_le (l := l) (fun s hs => h s (List.mem_cons_of_mem _ hs))
    simp only [List.map_cons, List.sum_cons, List.length_cons, Nat.add_mul, Nat.one_mul]
    omega
end Go.Proofs.YthomfpdigmeheaaDoorAv
set_option linter.unusedVariables false
set_option linter.unusedSimpArgs false
namespace Go.Proofs.YthomfpdigmeheaaDoorAv
open Go Go.RowKit
theorem ints_rv (ρ : Rho) (l : List Int) : RV ρ (sqX 1 (fun s => [XI s]) (Sq.ofList l 0)) (intsAV l) := by
  simp only [sqX, RV, toAV, intsAV, Sq.ofList]
  congr 1
  apply List.ext_getElem?
  intro i
  rw [List.getElem?_map]
  rcases Nat.lt_or_ge i l.length with h | h
  · have := vecOf_get (n := l.length) (sz := 1) (g := fun i => toAVL [XI (l.getD i 0)]) (i := i) (o := 0) h (by omega)
    simp only [Nat.mul_one, Nat.add_zero] at this
    rw [this, List.getElem?_eq_getElem h]
    simp [toAVL, toAV, intAV, List.getD_eq_getElem?_getD, List.getElem?_eq_getElem h]
  · rw [List.getElem?_eq_none h, List.getElem?_eq_none (by rw [vecOf_length]; omega)]
    rfl
/-- A law's run, out of its contract. -/
theorem law_J {P : Program} {f : FuncId} {C : CT} (h : CTok P f C) {xs : List XV} {bs : List AV} {cs : List Prop} (hC : C xs = some (cs, XB true)) (hc : ∀ p ∈ cs, p) (hv : RVL (fun _ => none) xs bs) (L : GH) : JF P f bs L (fun v L' => v = boolAV true ∧ L' = L) := by
  obtain ⟨v', h1, h2⟩ := h.2 xs cs _ hC hc _ bs hv
  simp only [RV] at h1
  exact (h2 L).mono fun v L' ⟨e1, e2⟩ => ⟨by rw [e1, h1]; rfl, e2⟩
end Go.Proofs.YthomfpdigmeheaaDoorAv
set_option linter.unusedVariables false
set_option linter.unusedSimpArgs false
namespace Go.Proofs.YthomfpdigmeheaaDoorAv
open Go Go.RowKit Go.ChangeShapes Go.WideShapes
theorem laidVars_at {P : Program} {W : World} {name : String} {d : DataW Unit} : ∀ {laid : List (String × DataW Unit)} {ps : List MemPlace}, DataW.LaidVars P W laid ps → (name, d) ∈ laid →
    ∃ g t cs fuel p, P.globalNamed name = some g ∧ (P.globals[g]?).map (·.type) = some t ∧ W.var? P name = some cs ∧ DataW.trod (fun _ => ()) P W 0 (fun _ => true) false fuel t cs.toList = some (d, p)
  | [], _, _, h => by cases h
  | (n, e) :: r, ps, h, hm => by
    simp only [DataW.LaidVars] at h
    obtain ⟨g, t, cs, fuel, p, q, h1, h2, h3, h4, h5, _⟩ := h
    rcases List.mem_cons.1 hm with hm | hm
    · cases hm
      exact ⟨g, t, cs, fuel, p, h1, h2, h3, h4⟩
    · exact laidVars_at h5 hm
theorem laidMetH_at {P : Program} {W : World} {laid : List (String × DataW Unit)} (h : laidMetH P laid W) {name : String} {d : DataW Unit} (hm : (name, d) ∈ laid) (hn : d.handleName?.isNone = true) :
    ∃ g t cs fuel p, P.globalNamed name = some g ∧ (P.globals[g]?).map (·.type) = some t ∧ W.var? P name = some cs ∧ DataW.trod (fun _ => ()) P W 0 (fun _ => true) false fuel t cs.toList = some (d, p) := by
  unfold laidMetH at h
  split at h
  · obtain ⟨ps, h, _⟩ := h
    exact laidVars_at h hm
  · obtain ⟨⟨ps, h, _⟩, _⟩ := h
    exact laidVars_at h (List.mem_filter.2 ⟨hm, hn⟩)
/-- What a one-celled datum says of the cell. -/
def cellD {H : Type} : Value → DataW H
  | .int k n => .lit (.int k n)
  | .string s => .lit (.string s.data.toList)
  | .bool b => .lit (.bool b)
  | _ => .nil
theorem trod_cell {H : Type} {enc : TypeId × Value → H} {P : Program} {w : World} {base : Nat} {sp : Nat → Bool} {held : Bool} {fuel : Nat} {e : TypeId} {c v : Value} {q : List MemPlace}
    (he : (∃ k, P.underlying e = some (.int k)) ∨ P.underlying e = some .string) (hv : (∃ k n, v = .int k n) ∨ ∃ s, v = .string s)
    (h : DataW.trod enc P w base sp held fuel e [c] = some (cellD v, q)) : c = v := by
  rcases he with ⟨k, he⟩ | he
  · obtain ⟨z, h1, h2, _⟩ := DataW.trod_int he h
    rcases hv with ⟨k', n, rfl⟩ | ⟨s, rfl⟩
    · simp only [cellD, Prod.mk.injEq, DataW.lit.injEq, Lit.int.injEq] at h2
      obtain ⟨⟨rfl, rfl⟩, _⟩ := h2
      simpa using h1
    · simp [cellD] at h2
  · obtain ⟨s, h1, h2, _⟩ := DataW.trod_string he h
    rcases hv with ⟨k', n, rfl⟩ | ⟨s', rfl⟩
    · simp [cellD] at h2
    · simp only [cellD, Prod.mk.injEq, DataW.lit.injEq, Lit.string.injEq] at h2
      obtain ⟨h2, _⟩ := h2
      have : s' = s := by
        cases s; cases s'
        simp only [ByteArray.mk.injEq]
        exact Array.toList_inj.1 h2
      rw [this]
      simpa using h1
theorem cells_of_row {H : Type} {enc : TypeId × Value → H} {P : Program} {w : World} {base : Nat} {sp : Nat → Bool} {held : Bool} {fuel : Nat} {t e : TypeId} {n : Nat} {cs : List Value} {vs : List Value} {p : List MemPlace}
    (ht : P.underlying t = some (.array n e)) (he : (∃ k, P.underlying e = some (.int k)) ∨ P.underlying e = some .string) (hce : P.cellsOf e = 1) (hct : P.cellsOf t = n)
    (hvs : ∀ v ∈ vs, (∃ k n, v = .int k n) ∨ ∃ s, v = .string s)
    (h : DataW.trod enc P w base sp held fuel t cs = some (.agg (vs.map cellD), p)) : cs = vs := by
  cases fuel with
  | zero => simp [DataW.trod] at h
  | succ fuel =>
    simp only [DataW.trod, ht, hce, hct, Nat.mul_one] at h
    split at h
    · rename_i hl
      obtain ⟨xs, hm, hx⟩ := Option.map_eq_some_iff.1 h
      have hxs : xs.map (·.1) = vs.map (cellD (H := H)) := by
        have := congrArg Prod.fst hx
        simpa using this
      have hxl : xs.length = n := by simpa using Lib.mapM_length hm
      have hzl : vs.length = n := by
        have := congrArg List.length hxs
        simp at this
        omega
      apply List.ext_getElem?
      intro i
      by_cases hi : i < n
      · obtain ⟨b, hb, hf⟩ := Lib.mapM_at hm i i (by simp [hi])
        have hc : (cs.drop i).take 1 = [cs[i]'(by omega)] := by
          rw [List.drop_eq_getElem_cons (by omega)]
          rfl
        have hv : vs[i]? = some (vs[i]'(by omega)) := List.getElem?_eq_getElem _
        have hb2 : (xs.map (·.1))[i]? = some b.1 := by simp [hb]
        rw [hxs, List.getElem?_map, hv] at hb2
        simp only [Option.map_some, Option.some.injEq] at hb2
        rw [hc] at hf
        have hbe : b = (cellD (vs[i]'(by omega)), b.2) := by rw [hb2]
        rw [hbe] at hf
        have := trod_cell he (hvs _ (List.getElem_mem _)) hf
        rw [hv, List.getElem?_eq_getElem (by omega), this]
      · rw [List.getElem?_eq_none (by omega), List.getElem?_eq_none (by omega)]
    · cases h
/-- A listed array of one-celled values: what is known of the variable's cells. -/
theorem glb_row {P : Program} {W : World} {laid : List (String × DataW Unit)} (h : laidMetH P laid W) (name : String) (vs : List Value) {g : Nat} {t e : TypeId} {n : Nat}
    (hm : (name, DataW.agg (vs.map cellD)) ∈ laid) (hg : P.globalNamed name = some g) (hty : (P.globals[g]?).map (·.type) = some t)
    (ht : P.underlying t = some (.array n e)) (he : (∃ k, P.underlying e = some (.int k)) ∨ P.underlying e = some .string) (hce : P.cellsOf e = 1) (hct : P.cellsOf t = n) (hvs : ∀ v ∈ vs, (∃ k n, v = .int k n) ∨ ∃ s, v = .string s) (hne : 0 < vs.length) :
    noL g = none ∧ g < W.heap.size ∧ (∀ i v, (vs.map GV.val)[i]? = some v → ∃ x, W.cell? ⟨g, i, none⟩ = some x ∧ v.is x ∧ x.oneCell' = true) ∧ ∃ c e fr, W.heap[g]? = some (.cells c e fr) ∧ c.size = (vs.map GV.val).length := by
  obtain ⟨g', t', cs, fuel, p, hg', ht', hvar, hd⟩ := laidMetH_at h hm rfl
  obtain rfl := Option.some.inj (hg.symm.trans hg')
  obtain rfl := Option.some.inj (hty.symm.trans ht')
  have e := cells_of_row ht he hce hct hvs hd
  have hc : ∀ i, W.cell? ⟨g, i, none⟩ = vs[i]? := fun i => by rw [World.var?_cell hg hvar i, ← e, Array.getElem?_toList]
  refine ⟨rfl, ?_, fun i v hi => ?_, ?_⟩
  · have h0 := hc 0
    rw [List.getElem?_eq_getElem hne] at h0
    refine Nat.lt_of_not_le fun hle => ?_
    unfold World.cell? at h0
    simp only [Array.getElem?_eq_none hle] at h0
    cases h0
  · rw [List.getElem?_map] at hi
    cases hv : vs[i]? with
    | none => rw [hv] at hi; cases hi
    | some x =>
      rw [hv] at hi
      obtain rfl := Option.some.inj hi
      refine ⟨x, (hc i).trans hv, rfl, ?_⟩
      rcases hvs x (List.mem_of_getElem? hv) with ⟨k, n, rfl⟩ | ⟨s, rfl⟩ <;> rfl
  · unfold World.var? at hvar
    rw [hg] at hvar
    simp only [Option.bind_some] at hvar
    split at hvar
    · rename_i c e' fr hh
      obtain rfl := Option.some.inj hvar
      exact ⟨c, e', fr, hh, by rw [List.length_map, ← e, Array.length_toList]⟩
    · cases hvar
/-- A variable that holds some whole number, or an interface's value: by the world's shape. -/
theorem glb_one {P : Program} {W : World} {g : Nat} {t : TypeId} {zero : Array Value} {gv : GV}
    (h : W.ShapedOpen P) (hg : g < P.globals.size) (h0 : ((begin P (fun _ _ => 0) default).world.heap[g]?).bind Obj.row? = some (zero, t)) (hz : zero.size = 1) (hc : ∃ x, W.cell? ⟨g, 0, none⟩ = some x ∧ gv.is x ∧ x.oneCell' = true) :
    noL g = none ∧ g < W.heap.size ∧ (∀ i v, [gv][i]? = some v → ∃ x, W.cell? ⟨g, i, none⟩ = some x ∧ v.is x ∧ x.oneCell' = true) ∧ ∃ c e fr, W.heap[g]? = some (.cells c e fr) ∧ c.size = [gv].length := by
  obtain ⟨cs, hh, hs, _⟩ := h.1 g zero t hg h0
  obtain ⟨x, hx, hi, ho⟩ := hc
  refine ⟨rfl, ?_, fun i v hi' => ?_, cs, t, _, hh, by rw [hs, hz]; rfl⟩
  · refine Nat.lt_of_not_le fun hle => ?_
    rw [Array.getElem?_eq_none hle] at hh
    cases hh
  · cases i with
    | zero =>
      obtain rfl := Option.some.inj hi'
      exact ⟨x, hx, hi, ho⟩
    | succ i => cases hi'
theorem glb_int {P : Program} {W : World} {g : Nat} {t : TypeId} {zero : Array Value} {k : IntKind}
    (h : W.ShapedOpen P) (hg : g < P.globals.size) (h0 : ((begin P (fun _ _ => 0) default).world.heap[g]?).bind Obj.row? = some (zero, t)) (hz : zero.size = 1)
    (hb : P.buildable t = true) (hc : P.cellTypes P.depth t = some [t]) (hu : P.underlying t = some (.int k)) :
    noL g = none ∧ g < W.heap.size ∧ (∀ i v, [GV.int k][i]? = some v → ∃ x, W.cell? ⟨g, i, none⟩ = some x ∧ v.is x ∧ x.oneCell' = true) ∧ ∃ c e fr, W.heap[g]? = some (.cells c e fr) ∧ c.size = [GV.int k].length := by
  obtain ⟨m, hm⟩ := Go.Proofs.cell_of_shapedOpen_int h hg h0 hz hb hc hu
  exact glb_one h hg h0 hz ⟨_, hm, ⟨m, rfl⟩, rfl⟩
/-! The witness's world. -/
mutual
def flatD : DataW Unit → List Value
  | .lit (.int k n) => [.int k n]
  | .lit (.string s) => [.string ⟨s.toArray⟩]
  | .lit (.bool b) => [.bool b]
  | .agg l => flatDs l
  | _ => []
def flatDs : List (DataW Unit) → List Value
  | [] => []
  | d :: l => flatD d ++ flatDs l
end
def layCells (cs : Array Value) : Obj → Obj
  | .cells _ t frozen => .cells cs t frozen
  | o => o
def layVar (P : Program) (w : World) (x : String × DataW Unit) : World :=
  match P.globalNamed x.1 with
  | some g => { w with heap := w.heap.modify g (layCells (flatD x.2).toArray) }
  | none => w
noncomputable def layWorld (P : Program) (os : Os) (laid : List (String × DataW Unit)) : World := laid.foldl (layVar P) (World.holding P os ⟨#[], #[], []⟩)
end Go.Proofs.YthomfpdigmeheaaDoorAv
set_option linter.unusedVariables false
set_option linter.unusedSimpArgs false
namespace Go.Proofs.YthomfpdigmeheaaDoorAv
open Go Go.RowKit Go.ChangeShapes Go.WideShapes
theorem open_u8s {H : Type} {enc : TypeId × Value → H} {P : Program} {W : World} {base : Nat} {sp : Nat → Bool} {held : Bool} {t e : TypeId} {n : Nat} {r : Reach} {b0 : Nat} {v : Value} {d : DataW H} {ps : List MemPlace}
    (ht : P.underlying t = some (.array n e)) (he : P.underlying e = some (.int .u8)) (hc : P.cellsOf e = 1) (hct : P.cellsOf t = n)
    (hval : Value.okWide P W r b0 t v) (hd : DataW.Trod enc P W base sp held t v d ps) :
    ∃ l : List Int, l.length = n ∧ v = .agg (l.map (Value.int .u8)).toArray ∧ (∀ x ∈ l, 0 ≤ x ∧ x ≤ 255) := by
  have hv : ∃ cs : Array Value, v = .agg cs ∧ cs.size = n := by
    simp only [Value.okWide, ht] at hval
    obtain ⟨cs, h1, h2, _⟩ := hval
    exact ⟨cs, h1, by rw [h2, hct]⟩
  obtain ⟨cs, rfl, hn⟩ := hv
  obtain ⟨fuel, hf⟩ := hd
  cases fuel with
  | zero => simp [DataW.trod] at hf
  | succ m =>
    rw [DataW.trod_step] at hf
    unfold DataW.trodStep at hf
    simp only [ht, Value.cells] at hf
    rw [if_pos (by rw [hct]; simpa using hn)] at hf
    simp only [Option.map_eq_some_iff] at hf
    obtain ⟨ys, hy, -⟩ := hf
    have key : ∀ i (hi : i < cs.size), ∃ a, cs[i] = .int .u8 a ∧ 0 ≤ a ∧ a ≤ 255 := fun i hi => by
      obtain ⟨b, _, hb⟩ := Lib.mapM_at hy i i (by rw [List.getElem?_range (by omega)])
      rw [hc, Nat.mul_one] at hb
      have h1 : (cs.toList.drop i).take 1 = [cs[i]] := by
        rw [List.drop_eq_getElem_cons (by simpa using hi)]
        simp
      rw [h1] at hb
      obtain ⟨a, ea, -, wa⟩ := DataW.trod_int he hb
      have ea : cs[i] = .int .u8 a := by simpa using ea
      refine ⟨a, ea, ?_⟩
      simp [Lit.wf, IntKind.min, IntKind.max, IntKind.signed, IntKind.bits] at wa
      omega
    refine ⟨cs.toList.map fun v => match v with | .int _ i => i | _ => 0, by simpa using hn, ?_, ?_⟩
    · congr 1
      apply Array.ext
      · simp
      · intro i h1 h2
        obtain ⟨a, ea, -, -⟩ := key i h1
        simp [ea]
    · intro x hx
      obtain ⟨v, hv, rfl⟩ := List.mem_map.1 hx
      obtain ⟨i, hi, rfl⟩ := List.getElem_of_mem hv
      obtain ⟨a, ea, h1, h2⟩ := key i (by simpa using hi)
      have : cs.toList[i] = .int .u8 a := by simpa using ea
      rw [this]
      exact ⟨h1, h2⟩
/-- A listed variable of an interface's type. -/
theorem glb_laidIfc {P : Program} {W : World} {laid : List (String × DataW Unit)} (hl : laidMetH P laid W) (name : String) {d : DataW Unit} {g : Nat} {t : TypeId} {ms : Array (String × TypeId)} {zero : Array Value} 
    (hm : (name, d) ∈ laid) (hn : d.handleName?.isNone = true) (h : W.ShapedOpen P) (hg : g < P.globals.size) (hgn : P.globalNamed name = some g) (hty : (P.globals[g]?).map (·.type) = some t)
    (h0 : ((begin P (fun _ _ => 0) default).world.heap[g]?).bind Obj.row? = some (zero, t)) (hz : zero.size = 1) (hu : P.underlying t = some (.interface ms)) :
    noL g = none ∧ g < W.heap.size ∧ (∀ i v, [GV.ifc][i]? = some v → ∃ x, W.cell? ⟨g, i, none⟩ = some x ∧ v.is x ∧ x.oneCell' = true) ∧ ∃ c e fr, W.heap[g]? = some (.cells c e fr) ∧ c.size = [GV.ifc].length := by
  obtain ⟨g', t', cs, fuel, p, hg', ht', hvar, hd⟩ := laidMetH_at hl hm hn
  obtain rfl := Option.some.inj (hgn.symm.trans hg')
  obtain rfl := Option.some.inj (hty.symm.trans ht')
  have hc : ∀ i, W.cell? ⟨g, i, none⟩ = cs.toList[i]? := fun i => by rw [World.var?_cell hgn hvar i, Array.getElem?_toList]
  generalize cs.toList = l at hd hc
  refine glb_one h hg h0 hz ?_
  cases fuel with
  | zero => simp [DataW.trod] at hd
  | succ m =>
    rw [DataW.trod_step] at hd
    unfold DataW.trodStep at hd
    simp only [hu] at hd
    cases l with
    | nil => simp at hd
    | cons x l =>
      have hx : x = .nilIface ∨ ∃ u v, x = .iface u v := by
        cases l with
        | cons y l => cases x <;> simp at hd
        | nil =>
          cases x
          case nilIface => exact .inl rfl
          case iface u v => exact .inr ⟨u, v, rfl⟩
          all_goals simp at hd
      refine ⟨x, hc 0, hx, ?_⟩
      rcases hx with rfl | ⟨u, v, rfl⟩ <;> rfl
/-! The witness's world, where listed variables hold pointers to errors' texts. -/
def layIf (P : Program) (u st : TypeId) (w : World) (n : String) (s : List UInt8) : World :=
  match P.globalNamed n with
  | some g => World.alloc { w with heap := w.heap.modify g (layCells #[.iface u (.pointer (some ⟨w.heap.size, 0, none⟩))]) } (.cells #[.string ⟨s.toArray⟩] st)
  | none => w
def layVar2 (P : Program) (u st : TypeId) (w : World) (x : String × DataW Unit) : World :=
  match x.2 with
  | .iface _ (.ptr (.agg [.lit (.string s)])) => layIf P u st w x.1 s
  | _ => layVar P w x
noncomputable def layWorld2 (P : Program) (os : Os) (u st : TypeId) (laid : List (String × DataW Unit)) : World := laid.foldl (layVar2 P u st) (World.holding P os ⟨#[], #[], []⟩)
/-- A witness by its world's shape. -/
theorem witness_row_shaped {H : Type} {enc : TypeId × Value → H} {C : Checked} {os : Os} {f : FuncId} {fn : Func} {s : OpenSpec} {conds : List PathCond} {apart : Bool} {laid : List (String × DataW Unit)} (modest : Bool) (w0 : World) (args : Array Value) (hos : w0.os = os)
    (hsh : (w0.forCall (fun _ _ => 0) ⟨#[], args, []⟩).Shaped C.prog)
    (hok : Input.okWideB C.prog (w0.forCall (fun _ _ => 0) ⟨#[], args, []⟩) f ⟨#[], args, []⟩ = true)
    (hrow : s.preRow enc C.prog fn conds apart laid (w0.forCall (fun _ _ => 0) ⟨#[], args, []⟩).memory args) :
    ∃ (w : World) (tape : Tape) (i : Input), w.os = os ∧ (w.forCall tape i).Shaped C.prog ∧ i.vars = [] ∧ Input.okWide C.prog (w.forCall tape i) .any w.heap.size f i ∧
      s.preRow enc C.prog fn conds apart laid (w.forCall tape i).memory i.args ∧ ({ modest := modest } : Assume).holds C.prog (lone (Frame.enter C.prog f i.args .normal) [] (w.forCall tape i)) :=
  ⟨w0, fun _ _ => 0, ⟨#[], args, []⟩, hos, hsh, (Input.okWide_of_okWideB (base := 0) hok).1, (Input.okWide_of_okWideB hok).2, hrow, by
    simp only [Assume.holds]
    exact ⟨by simp, by simp, fun _ => Modest.zero, by simp, by simp⟩⟩
/-- What is known of a variable's cells. -/
theorem glb_cells {P : Program} {W : World} {name : String} {g : Nat} {cs : Array Value} {vs : List GV} (hg : P.globalNamed name = some g) (hvar : W.var? P name = some cs) (hn : cs.size = vs.length) (hne : 0 < vs.length)
    (hc : ∀ i v, vs[i]? = some v → ∃ x, W.cell? ⟨g, i, none⟩ = some x ∧ v.is x ∧ x.oneCell' = true) :
    noL g = none ∧ g < W.heap.size ∧ (∀ i v, vs[i]? = some v → ∃ x, W.cell? ⟨g, i, none⟩ = some x ∧ v.is x ∧ x.oneCell' = true) ∧ ∃ c e fr, W.heap[g]? = some (.cells c e fr) ∧ c.size = vs.length := by
  unfold World.var? at hvar
  rw [hg] at hvar
  simp only [Option.bind_some] at hvar
  split at hvar
  · rename_i c e' fr hh
    obtain rfl := Option.some.inj hvar
    refine ⟨rfl, ?_, hc, c, e', fr, hh, hn⟩
    refine Nat.lt_of_not_le fun hle => ?_
    rw [Array.getElem?_eq_none hle] at hh
    cases hh
  · cases hvar
theorem trod_len {H : Type} {enc : TypeId × Value → H} {P : Program} {w : World} {base : Nat} {sp : Nat → Bool} {held : Bool} {fuel : Nat} {t e : TypeId} {n : Nat} {cs : List Value} {d : DataW H} {p : List MemPlace} (ht : P.underlying t = some (.array n e))
    (h : DataW.trod enc P w base sp held fuel t cs = some (d, p)) : cs.length = P.cellsOf t := by
  cases fuel with
  | zero => simp [DataW.trod] at h
  | succ fuel =>
    simp only [DataW.trod, ht] at h
    split at h
    · rename_i hl
      simpa using hl
    · cases h
end Go.Proofs.YthomfpdigmeheaaDoorAv
set_option linter.unusedVariables false
set_option linter.unusedSimpArgs false
set_option maxRecDepth 100000
namespace Go.Proofs.YthomfpdigmeheaaDoorAv
open Go Go.RowKit
theorem reads_at {P : Program} {W : World} {laid : List (String × DataW Unit)} (h : laidMetH P laid W) {name : String} {d : DataW Unit} (hm : (name, d) ∈ laid) (hn : d.handleName?.isNone = true) : Lib.VarReads P W name d := laidMetH_at h hm hn
abbrev laidN : List (String × DataW Unit) := YthomfpdigmeheaaDoor.Rows.candNoneRow.laid
theorem glb_ok {W : World} (hL : laidMetH Tryd.prog laidN W) (hs : W.ShapedOpen Tryd.prog) : Glb noL W := by
  have r1 : Lib.VarReads Tryd.prog W "unicode/utf8.first" Lib.firstData := reads_at hL (.tail _ (.tail _ (.tail _ (.tail _ (.head _))))) rfl
  have r2 : Lib.VarReads Tryd.prog W "unicode/utf8.acceptRanges" Lib.acceptData := reads_at hL (.head _) rfl
  have hU : Lib.Utf8Tabs 0 1 W := utf8Tabs_of_readsT (ρ := Tryd.lays196_ren) (U8Types.of196 Tryd.lays196) ⟨by kernel_rfl, by kernel_rfl, by kernel_rfl, by kernel_rfl, by kernel_rfl, by kernel_rfl, by kernel_rfl⟩ r1 r2
  have h1 : ∀ c : Fin 256, (((glbT.head?.map (·.2)).getD [])[c.val]?).map (fun v => match v with | .val (.int .u8 z) => z == (Lib.firstT c.val : Int) | _ => false) = some true := by decide +kernel
  have h2 : ∀ i : Fin 32, (((glbT.tail.head?.map (·.2)).getD [])[i.val]?).map (fun v => match v with | .val (.int .u8 z) => z == (if i.val % 2 = 0 then (Lib.accLo (i.val / 2) : Int) else (Lib.accHi (i.val / 2) : Int)) | _ => false) = some true := by decide +kernel
  have go : ∀ (g : Nat) (l : List GV) (n : Nat) (z : Int) (v : GV), W.cell? ⟨g, n, none⟩ = some (.int .u8 z) → (l[n]?).map (fun v => match v with | .val (.int .u8 y) => y == z | _ => false) = some true → l[n]? = some v → ∃ x, W.cell? ⟨g, n, none⟩ = some x ∧ v.is x ∧ x.oneCell' = true := by
    intro g l n z v hc hn hv
    rw [hv] at hn
    simp only [Option.map_some, Option.some.injEq] at hn
    split at hn
    · rename_i y
      have : y = z := by simpa using hn
      subst this
      exact ⟨_, hc, rfl, rfl⟩
    · cases hn
  intro g vs hm
  simp only [glbT, List.mem_cons, List.not_mem_nil, or_false, Prod.mk.injEq] at hm
  rcases hm with ⟨rfl, rfl⟩ | ⟨rfl, rfl⟩ | ⟨rfl, rfl⟩
  · obtain ⟨g, t, cs, fuel, p, q1, q2, q3, q4⟩ := r1
    obtain rfl := Option.some.inj ((show Tryd.prog.globalNamed "unicode/utf8.first" = some 0 by kernel_rfl).symm.trans q1)
    obtain rfl := Option.some.inj ((show (Tryd.prog.globals[0]?).map (·.type) = some 57 by kernel_rfl).symm.trans q2)
    refine glb_cells q1 q3 ?_ (by decide) fun i v hi => ?_
    · have := trod_len Tryd.underlying57 q4
      rw [Array.length_toList] at this
      exact this.trans (by kernel_rfl)
    · have hi' : i < 256 := by
        have := (List.getElem?_eq_some_iff.1 hi).1
        simpa using this
      exact go _ _ i _ v (hU.1 i hi') (h1 ⟨i, hi'⟩) hi
  · obtain ⟨g, t, cs, fuel, p, q1, q2, q3, q4⟩ := r2
    obtain rfl := Option.some.inj ((show Tryd.prog.globalNamed "unicode/utf8.acceptRanges" = some 1 by kernel_rfl).symm.trans q1)
    obtain rfl := Option.some.inj ((show (Tryd.prog.globals[1]?).map (·.type) = some 60 by kernel_rfl).symm.trans q2)
    refine glb_cells q1 q3 ?_ (by decide) fun i v hi => ?_
    · have := trod_len Tryd.underlying60 q4
      rw [Array.length_toList] at this
      exact this.trans (by kernel_rfl)
    · have hi' : i < 32 := by
        have := (List.getElem?_eq_some_iff.1 hi).1
        simpa using this
      have h3 := hU.2 (i / 2) (by omega)
      by_cases e : i % 2 = 0
      · have h4 := h3.1
        rw [show 2 * (i / 2) = i by omega] at h4
        refine go _ _ i _ v h4 ?_ hi
        have := h2 ⟨i, hi'⟩
        simp only [e] at this
        exact this
      · have h4 := h3.2
        rw [show 2 * (i / 2) + 1 = i by omega] at h4
        refine go _ _ i _ v h4 ?_ hi
        have := h2 ⟨i, hi'⟩
        simp only [e] at this
        exact this
  · exact glb_int (zero := #[.int .i64 0]) (t := 3) hs (of_decide_eq_true (by kernel_rfl)) (by kernel_rfl) rfl (by kernel_rfl) (by kernel_rfl) Tryd.underlying3
end Go.Proofs.YthomfpdigmeheaaDoorAv
set_option linter.unusedVariables false
set_option linter.unusedSimpArgs false
set_option maxRecDepth 100000
namespace Go.Proofs.YthomfpdigmeheaaDoorAv
open Go Go.RowKit
structure IL where
  i : Nat
def capC (c : Int) : Bool := decide (c ≥ 65) && decide (c ≤ 90)
/-- A text's bytes, capitals ahead of place i small. -/
def lwB (s : ByteArray) (i j : Nat) : Int := if j < i ∧ capC (sbyte s j) = true then IntKind.u8.wrap (sbyte s j + 32) else sbyte s j
def lowT (s : ByteArray) : ByteArray := txtOf s.size fun j => UInt8.ofNat (lwB s s.size (0 + j)).toNat
def lwI (s : ByteArray) : Inv where
  σ := IL
  S := fun x => ⟨[(3, .sl 0 1 0 s.size), (8, .sl 0 1 0 s.size), (9, XI s.size), (10, XI x.i)], [(0, .vec 5 false s.size 1 fun j => [X8 (lwB s x.i j)])], 1, false, []⟩
  inv := fun x => x.i ≤ s.size
  μ := fun x => s.size - x.i
def lwE (s : ByteArray) : Env := { loops := [(0, lwI s)] }
def lowV (s : ByteArray) : Prop :=
  (∃ (x : (lwI s).σ), x.i.le s.size ∧ true = true ∧ XV.sl (0 : Nat) (1 : Nat) (0 : Nat) s.size = XV.sl (0 : Nat) (1 : Nat) (0 : Nat) s.size ∧ XV.sl (0 : Nat) (1 : Nat) (0 : Nat) s.size = XV.sl (0 : Nat) (1 : Nat) (0 : Nat) s.size ∧ (↑s.size : Int) = (↑s.size : Int) ∧ (0 : Int) = (↑x.i : Int) ∧ (((5 : TypeId) = (5 : TypeId) ∧ false = false ∧ (1 : Nat) = (1 : Nat)) ∧ s.size = s.size ∧ ∀ (j : Nat), j < s.size → [X8 (sbyte s (↑j : Int))] = [X8 (lwB s x.i j)]) ∧ True) ∧ ∀ (x : IL), x.i.le s.size → (decide ((↑x.i : Int) < (↑s.size : Int)) = true → (0 : Int) ≤ (↑x.i : Int) ∧ (↑x.i : Int) < (↑s.size : Int) ∧ (0 : Nat) + (↑x.i : Int).toNat < s.size ∧ ((decide (lwB s x.i ((0 : Nat) + (↑x.i : Int).toNat) ≥ (65 : Int)) && decide (lwB s x.i ((0 : Nat) + (↑x.i : Int).toNat) ≤ (90 : Int))) = true → (0 : Int) ≤ (↑x.i : Int) ∧ (↑x.i : Int) < (↑s.size : Int) ∧ (0 : Nat) + (↑x.i : Int).toNat < s.size ∧ in64 ((↑x.i : Int) + (1 : Int)) ∧ ∃ (x' : (lwI s).σ), x'.i.le s.size ∧ s.size - x'.i < s.size - x.i ∧ true = true ∧ XV.sl (0 : Nat) (1 : Nat) (0 : Nat) s.size = XV.sl (0 : Nat) (1 : Nat) (0 : Nat) s.size ∧ XV.sl (0 : Nat) (1 : Nat) (0 : Nat) s.size = XV.sl (0 : Nat) (1 : Nat) (0 : Nat) s.size ∧ (↑s.size : Int) = (↑s.size : Int) ∧ (↑x.i : Int) + (1 : Int) = (↑x'.i : Int) ∧ (((5 : TypeId) = (5 : TypeId) ∧ false = false ∧ (1 : Nat) = (1 : Nat)) ∧ s.size = s.size ∧ ∀ (j : Nat), j < s.size → (bif j.beq ((0 : Nat) + (↑x.i : Int).toNat) then [X8 (IntKind.u8.wrap (lwB s x.i ((0 : Nat) + (↑x.i : Int).toNat) + (32 : Int)))] else [X8 (lwB s x.i j)]) = [X8 (lwB s x'.i j)]) ∧ True) ∧ ((decide (lwB s x.i ((0 : Nat) + (↑x.i : Int).toNat) ≥ (65 : Int)) && decide (lwB s x.i ((0 : Nat) + (↑x.i : Int).toNat) ≤ (90 : Int))) = false → in64 ((↑x.i : Int) + (1 : Int)) ∧ ∃ (x' : (lwI s).σ), x'.i.le s.size ∧ s.size - x'.i < s.size - x.i ∧ true = true ∧ XV.sl (0 : Nat) (1 : Nat) (0 : Nat) s.size = XV.sl (0 : Nat) (1 : Nat) (0 : Nat) s.size ∧ XV.sl (0 : Nat) (1 : Nat) (0 : Nat) s.size = XV.sl (0 : Nat) (1 : Nat) (0 : Nat) s.size ∧ (↑s.size : Int) = (↑s.size : Int) ∧ (↑x.i : Int) + (1 : Int) = (↑x'.i : Int) ∧ (((5 : TypeId) = (5 : TypeId) ∧ false = false ∧ (1 : Nat) = (1 : Nat)) ∧ s.size = s.size ∧ ∀ (j : Nat), j < s.size → [X8 (lwB s x.i j)] = [X8 (lwB s x'.i j)]) ∧ True)) ∧ (decide ((↑x.i : Int) < (↑s.size : Int)) = false → (0 : Nat) + s.size ≤ s.size ∧ (∀ (j : Nat), j < s.size → [X8 (lwB s x.i ((0 : Nat) + j))] = [X8 (↑{ toBitVec := BitVec.ofNat (8 : Nat) (lwB s x.i ((0 : Nat) + j)).toNat : UInt8 }.toNat : Int)]) ∧ (txtOf s.size fun (j : Nat) => { toBitVec := BitVec.ofNat (8 : Nat) (lwB s x.i ((0 : Nat) + j)).toNat : UInt8 }) = lowT s)
theorem lowV_eq (s : ByteArray) : lowV s = (funC cx0 Tryd.f20 (mkSc (lwE s) (bodyOf Tryd.f20)) [XT s] (XT (lowT s))) := by kernel_rfl
def digC (c : Int) : Bool := decide (c ≥ 48) && decide (c ≤ 57)
/-- May a byte stand in a label? -/
def okC (c : Int) : Bool := digC c || c == 45 || c == 95 || (decide (bits .or .u8 c 32 ≥ 97) && decide (bits .or .u8 c 32 ≤ 122) && decide (c ≥ 65))
def okN (s : ByteArray) : Nat → Bool
  | 0 => true
  | i + 1 => okN s i && okC (sbyte s i)
def rgt (s : ByteArray) : Bool := decide (0 < s.size) && decide (s.size ≤ 63) && !(sbyte s 0 == 45) && !(sbyte s ((s.size : Int) - 1) == 45) && okN s s.size
def rgI (s : ByteArray) : Inv where
  σ := IL
  S := fun x => ⟨[(0, XT s), (27, XI s.size), (28, XI x.i)], [], 0, false, []⟩
  inv := fun x => x.i ≤ s.size ∧ okN s x.i = true ∧ rgt s = okN s s.size
  μ := fun x => s.size - x.i
def rgE (s : ByteArray) : Env := { loops := [(0, rgI s)] }
def rgtV (s : ByteArray) : Prop :=
  ((!(decide (s = { data := #[] : ByteArray }) || decide ((↑s.size : Int) > (63 : Int)))) = true → (0 : Int) ≤ (0 : Int)) ∧ ((!(decide (s = { data := #[] : ByteArray }) || decide ((↑s.size : Int) > (63 : Int)))) = true → (0 : Int) < (↑s.size : Int)) ∧ ((!(decide (s = { data := #[] : ByteArray }) || decide ((↑s.size : Int) > (63 : Int)) || sbyte s (0 : Int) == (45 : Int))) = true → in64 ((↑s.size : Int) - (1 : Int))) ∧ ((!(decide (s = { data := #[] : ByteArray }) || decide ((↑s.size : Int) > (63 : Int)) || sbyte s (0 : Int) == (45 : Int))) = true → (0 : Int) ≤ (↑s.size : Int) - (1 : Int)) ∧ ((!(decide (s = { data := #[] : ByteArray }) || decide ((↑s.size : Int) > (63 : Int)) || sbyte s (0 : Int) == (45 : Int))) = true → (↑s.size : Int) - (1 : Int) < (↑s.size : Int)) ∧ ((decide (s = { data := #[] : ByteArray }) || decide ((↑s.size : Int) > (63 : Int)) || sbyte s (0 : Int) == (45 : Int) || sbyte s ((↑s.size : Int) - (1 : Int)) == (45 : Int)) = true → false = rgt s) ∧ ((decide (s = { data := #[] : ByteArray }) || decide ((↑s.size : Int) > (63 : Int)) || sbyte s (0 : Int) == (45 : Int) || sbyte s ((↑s.size : Int) - (1 : Int)) == (45 : Int)) = false → (∃ (x : (rgI s).σ), (x.i ≤ s.size ∧ okN s x.i = true ∧ rgt s = okN s s.size) ∧ true = true ∧ s = s ∧ (↑s.size : Int) = (↑s.size : Int) ∧ (0 : Int) = (↑x.i : Int) ∧ True) ∧ ∀ (x : IL), x.i ≤ s.size ∧ okN s x.i = true ∧ rgt s = okN s s.size → (decide ((↑x.i : Int) < (↑s.size : Int)) = true → (0 : Int) ≤ (↑x.i : Int) ∧ (↑x.i : Int) < (↑s.size : Int) ∧ (0 : Int) ≤ (↑x.i : Int) ∧ (↑x.i : Int) < (↑s.size : Int) ∧ (decide (sbyte s (↑x.i : Int) ≥ (48 : Int)) = true → (0 : Int) ≤ (↑x.i : Int)) ∧ (decide (sbyte s (↑x.i : Int) ≥ (48 : Int)) = true → (↑x.i : Int) < (↑s.size : Int)) ∧ ((!(decide (sbyte s (↑x.i : Int) ≥ (48 : Int)) && decide (sbyte s (↑x.i : Int) ≤ (57 : Int)))) = true → (0 : Int) ≤ (↑x.i : Int)) ∧ ((!(decide (sbyte s (↑x.i : Int) ≥ (48 : Int)) && decide (sbyte s (↑x.i : Int) ≤ (57 : Int)))) = true → (↑x.i : Int) < (↑s.size : Int)) ∧ ((!(decide (sbyte s (↑x.i : Int) ≥ (48 : Int)) && decide (sbyte s (↑x.i : Int) ≤ (57 : Int))) && sbyte s (↑x.i : Int) != (45 : Int)) = true → (0 : Int) ≤ (↑x.i : Int)) ∧ ((!(decide (sbyte s (↑x.i : Int) ≥ (48 : Int)) && decide (sbyte s (↑x.i : Int) ≤ (57 : Int))) && sbyte s (↑x.i : Int) != (45 : Int)) = true → (↑x.i : Int) < (↑s.size : Int)) ∧ ((!(decide (sbyte s (↑x.i : Int) ≥ (48 : Int)) && decide (sbyte s (↑x.i : Int) ≤ (57 : Int))) && sbyte s (↑x.i : Int) != (45 : Int) && sbyte s (↑x.i : Int) != (95 : Int) && !(decide (bits BinOp.or IntKind.u8 (sbyte s (↑x.i : Int)) (32 : Int) < (97 : Int)) || decide (bits BinOp.or IntKind.u8 (sbyte s (↑x.i : Int)) (32 : Int) > (122 : Int)))) = true → (0 : Int) ≤ (↑x.i : Int)) ∧ ((!(decide (sbyte s (↑x.i : Int) ≥ (48 : Int)) && decide (sbyte s (↑x.i : Int) ≤ (57 : Int))) && sbyte s (↑x.i : Int) != (45 : Int) && sbyte s (↑x.i : Int) != (95 : Int) && !(decide (bits BinOp.or IntKind.u8 (sbyte s (↑x.i : Int)) (32 : Int) < (97 : Int)) || decide (bits BinOp.or IntKind.u8 (sbyte s (↑x.i : Int)) (32 : Int) > (122 : Int)))) = true → (↑x.i : Int) < (↑s.size : Int)) ∧ ((!(decide (sbyte s (↑x.i : Int) ≥ (48 : Int)) && decide (sbyte s (↑x.i : Int) ≤ (57 : Int))) && sbyte s (↑x.i : Int) != (45 : Int) && sbyte s (↑x.i : Int) != (95 : Int) && (decide (bits BinOp.or IntKind.u8 (sbyte s (↑x.i : Int)) (32 : Int) < (97 : Int)) || decide (bits BinOp.or IntKind.u8 (sbyte s (↑x.i : Int)) (32 : Int) > (122 : Int)) || decide (sbyte s (↑x.i : Int) < (65 : Int)))) = true → false = rgt s) ∧ ((!(decide (sbyte s (↑x.i : Int) ≥ (48 : Int)) && decide (sbyte s (↑x.i : Int) ≤ (57 : Int))) && sbyte s (↑x.i : Int) != (45 : Int) && sbyte s (↑x.i : Int) != (95 : Int) && (decide (bits BinOp.or IntKind.u8 (sbyte s (↑x.i : Int)) (32 : Int) < (97 : Int)) || decide (bits BinOp.or IntKind.u8 (sbyte s (↑x.i : Int)) (32 : Int) > (122 : Int)) || decide (sbyte s (↑x.i : Int) < (65 : Int)))) = false → in64 ((↑x.i : Int) + (1 : Int)) ∧ ∃ (x' : (rgI s).σ), (x'.i ≤ s.size ∧ okN s x'.i = true ∧ rgt s = okN s s.size) ∧ s.size - x'.i < s.size - x.i ∧ true = true ∧ s = s ∧ (↑s.size : Int) = (↑s.size : Int) ∧ (↑x.i : Int) + (1 : Int) = (↑x'.i : Int) ∧ True)) ∧ (decide ((↑x.i : Int) < (↑s.size : Int)) = false → true = rgt s))
theorem rgtV_eq (s : ByteArray) : rgtV s = (funC cx0 Tryd.f22 (mkSc (rgE s) (bodyOf Tryd.f22)) [XT s] (XB (rgt s))) := by kernel_rfl
def pla (s : ByteArray) : Nat → Bool
  | 0 => true
  | i + 1 => pla s i && decide (sbyte s i < 128)
def plI (s : ByteArray) : Inv where
  σ := IL
  S := fun x => ⟨[(0, XT s), (5, XI s.size), (6, XI x.i)], [], 0, false, []⟩
  inv := fun x => x.i ≤ s.size ∧ pla s x.i = true
  μ := fun x => s.size - x.i
def plE (s : ByteArray) : Env := { loops := [(0, plI s)] }
def plaV (s : ByteArray) : Prop :=
  (∃ (x : (plI s).σ), (x.i ≤ s.size ∧ pla s x.i = true) ∧ true = true ∧ s = s ∧ (↑s.size : Int) = (↑s.size : Int) ∧ (0 : Int) = (↑x.i : Int) ∧ True) ∧ ∀ (x : IL), x.i ≤ s.size ∧ pla s x.i = true → (decide ((↑x.i : Int) < (↑s.size : Int)) = true → (0 : Int) ≤ (↑x.i : Int) ∧ (↑x.i : Int) < (↑s.size : Int) ∧ (decide (sbyte s (↑x.i : Int) ≥ (128 : Int)) = true → false = pla s s.size) ∧ (decide (sbyte s (↑x.i : Int) ≥ (128 : Int)) = false → in64 ((↑x.i : Int) + (1 : Int)) ∧ ∃ (x' : (plI s).σ), (x'.i ≤ s.size ∧ pla s x'.i = true) ∧ s.size - x'.i < s.size - x.i ∧ true = true ∧ s = s ∧ (↑s.size : Int) = (↑s.size : Int) ∧ (↑x.i : Int) + (1 : Int) = (↑x'.i : Int) ∧ True)) ∧ (decide ((↑x.i : Int) < (↑s.size : Int)) = false → true = pla s s.size)
theorem plaV_eq (s : ByteArray) : plaV s = (funC cx0 Tryd.f21 (mkSc (plE s) (bodyOf Tryd.f21)) [XT s] (XB (pla s s.size))) := by kernel_rfl
def good (r : Int) : Bool := (decide (r ≥ 223) && decide (r ≤ 255) && r != 247) || (decide (r ≥ 256) && decide (r ≤ 383) && r.tmod 2 == 1 && decide (r < 312)) || (decide (r ≥ 945) && decide (r ≤ 969)) || (decide (r ≥ 1072) && decide (r ≤ 1119))
def goodV (r : Int) : Prop :=
  ((decide (r ≥ (223 : Int)) && decide (r ≤ (255 : Int)) && r != (247 : Int)) = true → true = good r) ∧ ((decide (r ≥ (223 : Int)) && decide (r ≤ (255 : Int)) && r != (247 : Int)) = false → (decide (r ≥ (256 : Int)) = true → decide (r ≥ (256 : Int)) = true) ∧ (decide (r ≥ (256 : Int)) = true → decide (r ≥ (256 : Int)) = true) ∧ ((decide (r ≥ (256 : Int)) && decide (r ≤ (383 : Int))) = true → (2 : Int) ≠ (0 : Int) ∧ (r.tmod (2 : Int) == (1 : Int) && decide (r < (312 : Int))) = good r) ∧ ((decide (r ≥ (256 : Int)) && decide (r ≤ (383 : Int))) = false → (decide (r ≥ (945 : Int)) = true → decide (r ≥ (945 : Int)) = true) ∧ (decide (r ≥ (945 : Int)) = true → decide (r ≥ (945 : Int)) = true) ∧ ((decide (r ≥ (945 : Int)) && decide (r ≤ (969 : Int))) = true → true = good r) ∧ ((decide (r ≥ (945 : Int)) && decide (r ≤ (969 : Int))) = false → (decide (r ≥ (1072 : Int)) = true → decide (r ≥ (1072 : Int)) = true) ∧ (decide (r ≥ (1072 : Int)) = true → decide (r ≥ (1072 : Int)) = true) ∧ ((decide (r ≥ (1072 : Int)) && decide (r ≤ (1119 : Int))) = true → true = good r) ∧ ((decide (r ≥ (1072 : Int)) && decide (r ≤ (1119 : Int))) = false → false = good r))))
theorem goodV_eq (r : Int) : goodV r = (funC cx0 Tryd.f26 .nil [X32 r] (XB (good r))) := by kernel_rfl
theorem sb_rng (s : ByteArray) (i : Int) : 0 ≤ sbyte s i ∧ sbyte s i ≤ 255 := by
  unfold sbyte
  have := UInt8.toNat_lt (s.data.toList.getD i.toNat 0)
  omega
theorem w8 (n : Int) : IntKind.u8.wrap n = n % 256 := by simp [IntKind.wrap, IntKind.bits, IntKind.signed]
theorem lwB_rng (s : ByteArray) (i j : Nat) : 0 ≤ lwB s i j ∧ lwB s i j ≤ 255 := by
  unfold lwB
  split
  · rw [w8]; omega
  · exact sb_rng _ _
theorem lwB_b (s : ByteArray) (i j : Nat) : lwB s i j = ((UInt8.ofNat (lwB s i j).toNat).toNat : Int) := by
  have := lwB_rng s i j
  rw [UInt8.toNat_ofNat']
  omega
theorem lwB_at (s : ByteArray) (i : Nat) : lwB s i i = sbyte s i := by unfold lwB; rw [if_neg (by omega)]
theorem lwB_no (s : ByteArray) (i j : Nat) (h : j ≠ i ∨ capC (sbyte s i) = false) : lwB s (i + 1) j = lwB s i j := by
  unfold lwB
  by_cases e : j < i
  · have e2 : j < i + 1 := by omega
    simp only [e, e2]
  · by_cases e3 : j = i
    · subst e3
      have h : capC (sbyte s (j : Int)) = false := h.resolve_left (fun h => h rfl)
      rw [if_neg (by rw [h]; simp), if_neg (by omega)]
    · rw [if_neg (by omega), if_neg (by omega)]
theorem lwB_yes (s : ByteArray) (i : Nat) (h : capC (sbyte s i) = true) : lwB s (i + 1) i = IntKind.u8.wrap (sbyte s i + 32) := by
  unfold lwB
  rw [if_pos ⟨by omega, h⟩]
theorem low_v (s : ByteArray) (hs : s.size ≤ 1000000000) : lowV s := by
  unfold lowV
  refine ⟨⟨⟨0⟩, Nat.zero_le _, rfl, rfl, rfl, rfl, rfl, ⟨⟨rfl, rfl, rfl⟩, rfl, fun j hj => by simp [lwB]⟩, trivial⟩, ?_⟩
  rintro ⟨i⟩ hi
  have hi : i ≤ s.size := hi
  refine ⟨fun h => ?_, fun h => ?_⟩
  · have h : (i : Int) < s.size := of_decide_eq_true h
    have hz : 0 + (i : Int).toNat = i := by omega
    dsimp only
    rw [hz, lwB_at]
    refine ⟨by omega, by omega, by omega, fun hc => ?_, fun hc => ?_⟩
    · refine ⟨by omega, by omega, by omega, by unfold in64; omega, ⟨i + 1⟩, by show i + 1 ≤ s.size; omega, by show s.size - (i + 1) < s.size - i; omega, rfl, rfl, rfl, rfl, rfl, ⟨⟨rfl, rfl, rfl⟩, rfl, fun j hj => ?_⟩, trivial⟩
      dsimp only
      rw [beqN]
      by_cases e : j = i
      · subst e
        rw [decide_eq_true rfl, lwB_yes s j hc]
        rfl
      · rw [decide_eq_false e, lwB_no s i j (.inl e)]
        rfl
    · refine ⟨by unfold in64; omega, ⟨i + 1⟩, by show i + 1 ≤ s.size; omega, by show s.size - (i + 1) < s.size - i; omega, rfl, rfl, rfl, rfl, rfl, ⟨⟨rfl, rfl, rfl⟩, rfl, fun j hj => ?_⟩, trivial⟩
      rw [lwB_no s i j (.inr hc)]
  · have h : ¬ (i : Int) < s.size := of_decide_eq_false h
    obtain rfl : i = s.size := by omega
    exact ⟨by omega, fun j hj => congrArg (fun z => [X8 z]) (lwB_b s _ (0 + j)), rfl⟩
theorem emp_iff (s : ByteArray) : decide (s = ⟨#[]⟩) = decide (s.size = 0) := by
  rw [decide_eq_decide]
  constructor
  · rintro rfl; rfl
  · intro h
    obtain ⟨⟨l⟩⟩ := s
    have h : l.length = 0 := h
    rw [List.length_eq_zero_iff.1 h]
theorem okN_le (s : ByteArray) (i : Nat) : ∀ n, i ≤ n → okN s n = true → okN s i = true
  | 0, h, k => by obtain rfl : i = 0 := by omega
                  exact k
  | n + 1, h, k => by
    by_cases e : i = n + 1
    · rw [e]; exact k
    · rw [okN, Bool.and_eq_true] at k
      exact okN_le s i n (by omega) k.1
theorem rgt_v (s : ByteArray) (hs : s.size ≤ 1000000000) : rgtV s := by
  have hr : ∀ b, (decide (s = ⟨#[]⟩) || decide ((s.size : Int) > 63) || sbyte s 0 == 45 || sbyte s ((s.size : Int) - 1) == 45) = b → rgt s = (!b && okN s s.size) := by
    intro b hb
    unfold rgt
    rw [← hb, emp_iff]
    have e1 : decide (0 < s.size) = !decide (s.size = 0) := by
      by_cases e : s.size = 0
      · rw [decide_eq_true e, decide_eq_false (by omega)]; rfl
      · rw [decide_eq_false e, decide_eq_true (by omega)]; rfl
    have e2 : decide (s.size ≤ 63) = !decide ((s.size : Int) > 63) := by
      by_cases e : (s.size : Int) > 63
      · rw [decide_eq_true e, decide_eq_false (by omega)]; rfl
      · rw [decide_eq_false e, decide_eq_true (by omega)]; rfl
    rw [e1, e2, Bool.not_or, Bool.not_or, Bool.not_or]
  have hpos : ∀ b, (!(decide (s = ⟨#[]⟩) || b)) = true → (0 : Int) < s.size := by
    intro b h
    rw [emp_iff] at h
    have h2 : decide (s.size = 0) = false := by
      cases hd : decide (s.size = 0)
      · rfl
      · rw [hd] at h; cases h
    have := of_decide_eq_false h2
    omega
  have hpos2 : ∀ b c, (!(decide (s = ⟨#[]⟩) || b || c)) = true → (0 : Int) < s.size := fun b c h => hpos (b || c) (by rw [← Bool.or_assoc]; exact h)
  unfold rgtV
  refine ⟨fun _ => by omega, hpos _, fun h => by unfold in64; omega, fun h => by have := hpos2 _ _ h; omega, fun h => by omega, fun h => ?_, fun h => ?_⟩
  · rw [hr true h]; rfl
  have hr := hr false h
  refine ⟨⟨⟨0⟩, ⟨Nat.zero_le _, rfl, by rw [hr]; rfl⟩, rfl, rfl, rfl, rfl, trivial⟩, ?_⟩
  rintro ⟨i⟩ ⟨hi, hk, -⟩
  have hi : i ≤ s.size := hi
  refine ⟨fun h => ?_, fun h => ?_⟩
  · have h : (i : Int) < s.size := of_decide_eq_true h
    have hb : okN s (i + 1) = okC (sbyte s (i : Int)) := by
      have hk : okN s i = true := hk
      rw [okN, hk, Bool.true_and]
    dsimp only
    refine ⟨by omega, h, by omega, h, fun _ => by omega, fun _ => h, fun _ => by omega, fun _ => h, fun _ => by omega, fun _ => h, fun _ => by omega, fun _ => h, fun hc => ?_, fun hc => ?_⟩
    · have e : okC (sbyte s (i : Int)) = false := by
        unfold okC digC
        revert hc
        cases decide (sbyte s (i : Int) ≥ 48) && decide (sbyte s (i : Int) ≤ 57)
        · cases e1 : sbyte s (i : Int) == 45 <;> cases e2 : sbyte s (i : Int) == 95 <;> simp [bne, e1, e2]
          rintro ((h1 | h1) | h1) <;> omega
        · simp
      cases hN : okN s s.size
      · rw [hr, hN]; rfl
      · rw [okN_le s (i + 1) s.size (by omega) hN, e] at hb
        cases hb
    · have e : okC (sbyte s (i : Int)) = true := by
        unfold okC digC
        revert hc
        cases decide (sbyte s (i : Int) ≥ 48) && decide (sbyte s (i : Int) ≤ 57)
        · cases e1 : sbyte s (i : Int) == 45 <;> cases e2 : sbyte s (i : Int) == 95 <;> simp [bne, e1, e2]
        · simp
      exact ⟨by unfold in64; omega, ⟨i + 1⟩, ⟨by show i + 1 ≤ s.size; omega, by rw [hb, e], by rw [hr]; rfl⟩, by show s.size - (i + 1) < s.size - i; omega, rfl, rfl, rfl, rfl, trivial⟩
  · have h : ¬ (i : Int) < s.size := of_decide_eq_false h
    obtain rfl : i = s.size := by omega
    have hk : okN s s.size = true := hk
    rw [hr, hk]; rfl
theorem pla_le (s : ByteArray) (i : Nat) : ∀ n, i ≤ n → pla s n = true → pla s i = true
  | 0, h, k => by obtain rfl : i = 0 := by omega
                  exact k
  | n + 1, h, k => by
    by_cases e : i = n + 1
    · rw [e]; exact k
    · rw [pla, Bool.and_eq_true] at k
      exact pla_le s i n (by omega) k.1
theorem pla_v (s : ByteArray) (hs : s.size ≤ 1000000000) : plaV s := by
  unfold plaV
  refine ⟨⟨⟨0⟩, ⟨Nat.zero_le _, rfl⟩, rfl, rfl, rfl, rfl, trivial⟩, ?_⟩
  rintro ⟨i⟩ ⟨hi, hp⟩
  have hi : i ≤ s.size := hi
  refine ⟨fun h => ?_, fun h => ?_⟩
  · have h : (i : Int) < s.size := of_decide_eq_true h
    refine ⟨by dsimp only; omega, h, fun hc => ?_, fun hc => ?_⟩
    · have hc : sbyte s (i : Int) ≥ 128 := of_decide_eq_true hc
      cases hN : pla s s.size
      · rfl
      · have := pla_le s (i + 1) s.size (by omega) hN
        rw [pla, Bool.and_eq_true, decide_eq_true_iff] at this
        omega
    · have hc : ¬ sbyte s (i : Int) ≥ 128 := of_decide_eq_false hc
      have hp : pla s i = true := hp
      exact ⟨by unfold in64; dsimp only; omega, ⟨i + 1⟩, ⟨by show i + 1 ≤ s.size; omega, by show pla s (i + 1) = true; rw [pla, hp, Bool.true_and, decide_eq_true_iff]; omega⟩, by show s.size - (i + 1) < s.size - i; omega, rfl, rfl, rfl, rfl, trivial⟩
  · have h : ¬ (i : Int) < s.size := of_decide_eq_false h
    obtain rfl : i = s.size := by omega
    exact hp.symm
theorem good_v (r : Int) : goodV r := by
  unfold goodV good
  refine ⟨fun h => ?_, fun h => ⟨fun h => h, fun h => h, fun h1 => ⟨by decide, ?_⟩, fun h1 => ⟨fun h => h, fun h => h, fun h2 => ?_, fun h2 => ⟨fun h => h, fun h => h, fun h3 => ?_, fun h3 => ?_⟩⟩⟩⟩
  · rw [h]; rfl
  · simp only [Bool.and_eq_true, decide_eq_true_eq] at h1
    rw [h]
    have e1 : decide (r ≥ 945) = false := by rw [decide_eq_false_iff_not]; omega
    have e2 : decide (r ≥ 1072) = false := by rw [decide_eq_false_iff_not]; omega
    rw [e1, e2, decide_eq_true h1.1, decide_eq_true h1.2]
    simp
  · rw [h, h1, h2]; simp
  · rw [h, h1, h2, h3]; simp
  · rw [h, h1, h2, h3]; simp
def lowC : CT := C1 dStr (fun s => [s.size ≤ 1000000000]) fun s => XT (lowT s)
theorem low_ok : CTok Tryd.prog 20 lowC := C1_ok cx0_ok Tryd.func20 rfl (by decide) dStr_eq.ok (by kernel_rfl) (fun _ => rfl) fun s hc => exv (lowV_eq s) (low_v s (hc _ (by simp)))
def rgtC : CT := C1 dStr (fun s => [s.size ≤ 1000000000]) fun s => XB (rgt s)
theorem rgt_ok : CTok Tryd.prog 22 rgtC := C1_ok cx0_ok Tryd.func22 rfl (by decide) dStr_eq.ok (by kernel_rfl) (fun _ => rfl) fun s hc => exv (rgtV_eq s) (rgt_v s (hc _ (by simp)))
def plaC : CT := C1 dStr (fun s => [s.size ≤ 1000000000]) fun s => XB (pla s s.size)
theorem pla_ok : CTok Tryd.prog 21 plaC := C1_ok cx0_ok Tryd.func21 rfl (by decide) dStr_eq.ok (by kernel_rfl) (fun _ => rfl) fun s hc => exv (plaV_eq s) (pla_v s (hc _ (by simp)))
def goodC : CT := C1 (dIK .i32) (fun _ => []) fun r => XB (good r)
theorem good_ok : CTok Tryd.prog 26 goodC := C1_ok cx0_ok Tryd.func26 rfl (by decide) (dIK_eq .i32).ok (by kernel_rfl) (fun _ => rfl) fun r _ => exv (goodV_eq r) (good_v r)
end Go.Proofs.YthomfpdigmeheaaDoorAv
set_option linter.unusedVariables false
set_option linter.unusedSimpArgs false
set_option maxRecDepth 100000
namespace Go.Proofs.YthomfpdigmeheaaDoorAv
open Go Go.RowKit
/-- A sign's number. -/
def vlu (c : Int) : Int := if c ≥ 97 ∧ c ≤ 122 then c - 97 else if c ≥ 65 ∧ c ≤ 90 then c - 65 else if c ≥ 48 ∧ c ≤ 57 then c - 48 + 26 else 36
/-- A number's sign. -/
def dgt (d : Int) : Int := if d < 26 then 97 + d else 48 + d - 26
def thr (k b : Int) : Int := imin (imax (k - b) 1) 26
def vluV (c : Int) : Prop :=
  ((decide (c ≥ (97 : Int)) && decide (c ≤ (122 : Int))) = true → in64 (IntKind.u8.wrap (c - (97 : Int))) ∧ IntKind.u8.wrap (c - (97 : Int)) = vlu c) ∧ ((decide (c ≥ (97 : Int)) && decide (c ≤ (122 : Int))) = false → (decide (c ≥ (65 : Int)) = true → decide (c ≥ (65 : Int)) = true) ∧ (decide (c ≥ (65 : Int)) = true → decide (c ≥ (65 : Int)) = true) ∧ ((decide (c ≥ (65 : Int)) && decide (c ≤ (90 : Int))) = true → in64 (IntKind.u8.wrap (c - (65 : Int))) ∧ IntKind.u8.wrap (c - (65 : Int)) = vlu c) ∧ ((decide (c ≥ (65 : Int)) && decide (c ≤ (90 : Int))) = false → (decide (c ≥ (48 : Int)) = true → decide (c ≥ (48 : Int)) = true) ∧ (decide (c ≥ (48 : Int)) = true → decide (c ≥ (48 : Int)) = true) ∧ ((decide (c ≥ (48 : Int)) && decide (c ≤ (57 : Int))) = true → in64 (IntKind.u8.wrap (c - (48 : Int))) ∧ in64 (IntKind.u8.wrap (c - (48 : Int)) + (26 : Int)) ∧ IntKind.u8.wrap (c - (48 : Int)) + (26 : Int) = vlu c) ∧ ((decide (c ≥ (48 : Int)) && decide (c ≤ (57 : Int))) = false → (36 : Int) = vlu c)))
theorem vluV_eq (c : Int) : vluV c = (funC cx0 Tryd.f42 .nil [X8 c] (XI (vlu c))) := by kernel_rfl
def dgtV (d : Int) : Prop :=
  (decide (d < (26 : Int)) = true → in64 ((97 : Int) + d) ∧ IntKind.u8.wrap ((97 : Int) + d) = dgt d) ∧ (decide (d < (26 : Int)) = false → in64 ((48 : Int) + d) ∧ in64 ((48 : Int) + d - (26 : Int)) ∧ IntKind.u8.wrap ((48 : Int) + d - (26 : Int)) = dgt d)
theorem dgtV_eq (d : Int) : dgtV d = (funC cx0 Tryd.f45 .nil [XI d] (X8 (dgt d))) := by kernel_rfl
def thrV (k b : Int) : Prop :=
  in64 (k - b) ∧ imin (imax (k - b) (1 : Int)) (26 : Int) = thr k b
theorem thrV_eq (k b : Int) : thrV k b = (funC cx0 Tryd.f43 .nil [XI k, XI b] (XI (thr k b))) := by kernel_rfl
def adG : Nat → Int → Int → Int × Int
  | 0, d, k => (d, k)
  | f + 1, d, k => if d ≤ 455 then (d, k) else adG f (d / 35) (k + 36)
def ad0 (d n : Int) (st : Bool) : Int := (if st = true then d / 700 else d / 2) + (if st = true then d / 700 else d / 2) / n
def adp (d n : Int) (st : Bool) : Int := (adG 9 (ad0 d n st) 0).2 + 36 * (adG 9 (ad0 d n st) 0).1 / ((adG 9 (ad0 d n st) 0).1 + 38)
structure AL where
  f : Nat
  d : Int
  k : Int
def adI (r : Int × Int) : Inv where
  σ := AL
  S := fun x => ⟨[(0, XI x.d), (7, XI x.k)], [], 0, false, []⟩
  inv := fun x => 0 ≤ x.d ∧ x.d ≤ 455 * 35 ^ x.f ∧ x.f ≤ 9 ∧ x.k = 36 * (9 - x.f) ∧ adG x.f x.d x.k = r
  μ := fun x => x.f
def adC1 (d n : Int) (st : Bool) : Inv where
  σ := AL
  S := fun x => ⟨[(0, XI x.d), (1, XI n)], [], 0, false, []⟩
  inv := fun x => x.d = if st = true then d / 700 else d / 2
  μ := fun x => 0
def adE (d n : Int) (st : Bool) : Env := { loops := [(0, adI (adG 9 (ad0 d n st) 0))], cuts := [(4, adC1 d n st)] }
def adpV (d n : Int) (st : Bool) : Prop :=
  ((st = true → (700 : Int) ≠ (0 : Int) ∧ ∃ (x : (adC1 d n st).σ), (x.d = if st = true then d / (700 : Int) else d / (2 : Int)) ∧ true = true ∧ IntKind.i64.wrap (d.tdiv (700 : Int)) = x.d ∧ n = n ∧ True) ∧ (st = false → (2 : Int) ≠ (0 : Int) ∧ ∃ (x : (adC1 d n st).σ), (x.d = if st = true then d / (700 : Int) else d / (2 : Int)) ∧ true = true ∧ IntKind.i64.wrap (d.tdiv (2 : Int)) = x.d ∧ n = n ∧ True)) ∧ ∀ (x : AL), (x.d = if st = true then d / (700 : Int) else d / (2 : Int)) → n ≠ (0 : Int) ∧ in64 (x.d + IntKind.i64.wrap (x.d.tdiv n)) ∧ (∃ (x_1 : (adI (adG (9 : Nat) (ad0 d n st) (0 : Int))).σ), ((0 : Int) ≤ x_1.d ∧ x_1.d ≤ (455 : Int) * (35 : Int) ^ x_1.f ∧ x_1.f ≤ (9 : Nat) ∧ x_1.k = (36 : Int) * ((9 : Int) - (↑x_1.f : Int)) ∧ adG x_1.f x_1.d x_1.k = adG (9 : Nat) (ad0 d n st) (0 : Int)) ∧ true = true ∧ x.d + IntKind.i64.wrap (x.d.tdiv n) = x_1.d ∧ (0 : Int) = x_1.k ∧ True) ∧ ∀ (x : AL), (0 : Int) ≤ x.d ∧ x.d ≤ (455 : Int) * (35 : Int) ^ x.f ∧ x.f ≤ (9 : Nat) ∧ x.k = (36 : Int) * ((9 : Int) - (↑x.f : Int)) ∧ adG x.f x.d x.k = adG (9 : Nat) (ad0 d n st) (0 : Int) → (decide (x.d > (455 : Int)) = true → (35 : Int) ≠ (0 : Int) ∧ in64 (x.k + (36 : Int)) ∧ ∃ (x' : (adI (adG (9 : Nat) (ad0 d n st) (0 : Int))).σ), ((0 : Int) ≤ x'.d ∧ x'.d ≤ (455 : Int) * (35 : Int) ^ x'.f ∧ x'.f ≤ (9 : Nat) ∧ x'.k = (36 : Int) * ((9 : Int) - (↑x'.f : Int)) ∧ adG x'.f x'.d x'.k = adG (9 : Nat) (ad0 d n st) (0 : Int)) ∧ x'.f < x.f ∧ true = true ∧ IntKind.i64.wrap (x.d.tdiv (35 : Int)) = x'.d ∧ x.k + (36 : Int) = x'.k ∧ True) ∧ (decide (x.d > (455 : Int)) = false → in64 ((36 : Int) * x.d) ∧ in64 (x.d + (38 : Int)) ∧ x.d + (38 : Int) ≠ (0 : Int) ∧ in64 (x.k + IntKind.i64.wrap (((36 : Int) * x.d).tdiv (x.d + (38 : Int)))) ∧ x.k + IntKind.i64.wrap (((36 : Int) * x.d).tdiv (x.d + (38 : Int))) = adp d n st)
theorem adpV_eq (d n : Int) (st : Bool) : adpV d n st = (funC cx0 Tryd.f38 (mkSc (adE d n st) (bodyOf Tryd.f38)) [XI d, XI n, XB st] (XI (adp d n st))) := by kernel_rfl
theorem vlu_v (c : Int) : vluV c := by
  unfold vluV vlu
  simp only [w8, in64]
  refine ⟨fun h => ?_, fun h => ⟨fun h => h, fun h => h, fun h1 => ?_, fun h1 => ⟨fun h => h, fun h => h, fun h2 => ?_, fun h2 => ?_⟩⟩⟩
  · simp only [Bool.and_eq_true, decide_eq_true_eq] at h
    rw [if_pos h]; omega
  · simp only [Bool.and_eq_true, decide_eq_true_eq] at h1
    rw [if_neg (by omega), if_pos h1]; omega
  · simp only [Bool.and_eq_true, decide_eq_true_eq] at h2
    rw [if_neg (by omega), if_neg (by omega), if_pos h2]; omega
  · simp only [Bool.and_eq_false_iff, decide_eq_false_iff_not] at h h1 h2
    rw [if_neg (by omega), if_neg (by omega), if_neg (by omega)]
theorem dgt_v (d : Int) (h0 : 0 ≤ d) (h1 : d < 36) : dgtV d := by
  unfold dgtV dgt
  simp only [w8, in64, decide_eq_true_eq, decide_eq_false_iff_not]
  refine ⟨fun h => ?_, fun h => ?_⟩
  · rw [if_pos h]; omega
  · rw [if_neg h]; omega
theorem thr_v (k b : Int) (h : in64 (k - b)) : thrV k b := by
  unfold thrV thr
  exact ⟨h, rfl⟩
theorem thr_rng (k b : Int) : 1 ≤ thr k b ∧ thr k b ≤ 26 := by
  unfold thr imin imax
  split <;> split <;> omega
theorem adG_done (f : Nat) (d k : Int) (h : d ≤ 455) : adG f d k = (d, k) := by
  cases f with
  | zero => rfl
  | succ f => rw [adG, if_pos h]
theorem wdiv {a b : Int} (ha : 0 ≤ a) (hb : 0 < b) (h : a ≤ 9223372036854775807) : IntKind.i64.wrap (a.tdiv b) = a / b := by
  rw [Int.tdiv_eq_ediv_of_nonneg ha]
  have h1 : 0 ≤ a / b := Int.ediv_nonneg ha (by omega)
  have h2 : a / b ≤ a := Int.ediv_le_self b ha
  exact wrap64_in (by omega) (by omega)
theorem adp_v (d n : Int) (st : Bool) (h0 : 0 ≤ d) (h1 : d ≤ 35000000000000000) (hn : 1 ≤ n) : adpV d n st := by
  unfold adpV
  refine ⟨⟨fun h => ⟨by decide, ⟨0, d / 700, 0⟩, by rw [h]; rfl, rfl, ?_, rfl, trivial⟩, fun h => ⟨by decide, ⟨0, d / 2, 0⟩, by rw [h]; rfl, rfl, ?_, rfl, trivial⟩⟩, ?_⟩
  · exact wdiv h0 (by decide) (by omega)
  · exact wdiv h0 (by decide) (by omega)
  rintro ⟨_, e, _⟩ he
  have he : e = if st = true then d / 700 else d / 2 := he
  have e0 : 0 ≤ e := by rw [he]; split <;> omega
  have e1 : e ≤ 17500000000000000 := by rw [he]; split <;> omega
  have hd := wdiv e0 (show 0 < n by omega) (by omega)
  have hd1 : 0 ≤ e / n := Int.ediv_nonneg e0 (by omega)
  have hd2 : e / n ≤ e := Int.ediv_le_self n e0
  have ha : e + e / n = ad0 d n st := by rw [he]; rfl
  dsimp only
  rw [hd]
  refine ⟨by omega, by unfold in64; omega, ⟨⟨9, e + e / n, 0⟩, ⟨by show 0 ≤ e + e / n; omega, by show e + e / n ≤ 455 * 35 ^ 9; omega, Nat.le_refl _, rfl, by rw [ha]⟩, rfl, rfl, rfl, trivial⟩, ?_⟩
  rintro ⟨f, x, k⟩ hI
  obtain ⟨i0, i1, i2, i3, i4⟩ : 0 ≤ x ∧ x ≤ 455 * 35 ^ f ∧ f ≤ 9 ∧ k = 36 * (9 - (f : Int)) ∧ adG f x k = adG 9 (ad0 d n st) 0 := hI
  have hp : (35 : Int) ^ f ≤ 35 ^ 9 := by
    have : (35 : Nat) ^ f ≤ 35 ^ 9 := Nat.pow_le_pow_right (by decide) i2
    exact_mod_cast this
  have hx : x ≤ 455 * 35 ^ 9 := by omega
  dsimp only
  refine ⟨fun h => ?_, fun h => ?_⟩
  · have h : x > 455 := of_decide_eq_true h
    cases f with
    | zero => simp at i1; omega
    | succ f =>
      rw [wdiv i0 (by decide) (by omega)]
      refine ⟨by decide, by unfold in64; omega, ⟨f, x / 35, k + 36⟩, ⟨by show 0 ≤ x / 35; omega, ?_, by show f ≤ 9; omega, by show k + 36 = 36 * (9 - (f : Int)); omega, ?_⟩, by show f < f + 1; omega, rfl, rfl, rfl, trivial⟩
      · show x / 35 ≤ 455 * 35 ^ f
        rw [Int.pow_succ] at i1
        generalize (35 : Int) ^ f = z at i1
        omega
      · show adG f (x / 35) (k + 36) = _
        rw [← i4, adG, if_neg (by omega)]
  · have h : ¬ x > 455 := of_decide_eq_false h
    have hg : (x, k) = adG 9 (ad0 d n st) 0 := by rw [← i4, adG_done _ _ _ (by omega)]
    have hq := wdiv (a := 36 * x) (b := x + 38) (by omega) (by omega) (by omega)
    have hq1 : 0 ≤ 36 * x / (x + 38) := Int.ediv_nonneg (by omega) (by omega)
    have hq2 : 36 * x / (x + 38) ≤ 36 * x := Int.ediv_le_self _ (by omega)
    rw [hq]
    refine ⟨by unfold in64; omega, by unfold in64; omega, by omega, by unfold in64; omega, ?_⟩
    unfold adp
    rw [← hg]
theorem adG_rng : ∀ (f : Nat) (d k : Int), 0 ≤ d → d ≤ 455 * 35 ^ f → 0 ≤ (adG f d k).1 ∧ (adG f d k).1 ≤ 455 ∧ k ≤ (adG f d k).2 ∧ (adG f d k).2 ≤ k + 36 * f
  | 0, d, k, h0, h1 => by simp at h1; simp [adG]; omega
  | f + 1, d, k, h0, h1 => by
    rw [adG]
    split
    · dsimp only; omega
    · rw [Int.pow_succ] at h1
      have := adG_rng f (d / 35) (k + 36) (by omega) (by generalize (35 : Int) ^ f = z at h1; omega)
      omega
theorem adp_rng (d n : Int) (st : Bool) (h0 : 0 ≤ d) (h1 : d ≤ 35000000000000000) (hn : 1 ≤ n) : 0 ≤ adp d n st ∧ adp d n st ≤ 400 := by
  have e0 : 0 ≤ (if st = true then d / 700 else d / 2) := by split <;> omega
  have e1 : (if st = true then d / 700 else d / 2) ≤ 17500000000000000 := by split <;> omega
  have hd1 : 0 ≤ (if st = true then d / 700 else d / 2) / n := Int.ediv_nonneg e0 (by omega)
  have hd2 : (if st = true then d / 700 else d / 2) / n ≤ (if st = true then d / 700 else d / 2) := Int.ediv_le_self n e0
  have h := adG_rng 9 (ad0 d n st) 0 (by unfold ad0; omega) (by unfold ad0; omega)
  unfold adp
  generalize adG 9 (ad0 d n st) 0 = p at h
  obtain ⟨a, b⟩ := p
  dsimp only at h ⊢
  have hq1 : 0 ≤ 36 * a / (a + 38) := Int.ediv_nonneg (by omega) (by omega)
  have hq2 : 36 * a / (a + 38) ≤ 36 := by
    apply Int.ediv_le_of_le_mul (by omega)
    omega
  omega
def vluC : CT := C1 (dIK .u8) (fun _ => []) fun c => XI (vlu c)
theorem vlu_ok : CTok Tryd.prog 42 vluC := C1_ok cx0_ok Tryd.func42 rfl (by decide) (dIK_eq .u8).ok (by kernel_rfl) (fun _ => rfl) fun c _ => exv (vluV_eq c) (vlu_v c)
def dgtC : CT := C1 dInt (fun d => [0 ≤ d, d < 36]) fun d => X8 (dgt d)
theorem dgt_ok : CTok Tryd.prog 45 dgtC := C1_ok cx0_ok Tryd.func45 rfl (by decide) dInt_eq.ok (by kernel_rfl) (fun _ => rfl) fun d hc => exv (dgtV_eq d) (dgt_v d (hc _ (by simp)) (hc _ (by simp)))
def thrC : CT := C2 dInt dInt (fun k b => [in64 (k - b)]) fun k b => XI (thr k b)
theorem thr_ok : CTok Tryd.prog 43 thrC := C2_ok cx0_ok Tryd.func43 rfl (by decide) dInt_eq.ok dInt_eq.ok (by kernel_rfl) (fun _ _ => rfl) fun k b hc => exv (thrV_eq k b) (thr_v k b (hc _ (by simp)))
def adpC : CT := C3 dInt dInt dBool (fun d n _ => [0 ≤ d, d ≤ 35000000000000000, 1 ≤ n]) fun d n st => XI (adp d n st)
theorem adp_ok : CTok Tryd.prog 38 adpC := C3_ok cx0_ok Tryd.func38 rfl (by decide) dInt_eq.ok dInt_eq.ok dBool_eq.ok (by kernel_rfl) (fun _ _ _ => rfl) fun d n st hc => exv (adpV_eq d n st) (adp_v d n st (hc _ (by simp)) (hc _ (by simp)) (hc _ (by simp)))
end Go.Proofs.YthomfpdigmeheaaDoorAv
set_option linter.unusedVariables false
set_option linter.unusedSimpArgs false
namespace Go.Proofs.YthomfpdigmeheaaDoorAv
open Go Go.RowKit
section
variable {P : Program} {ρ : Rho} {F : Fr} {S : XS} {t : TM} {L : GH} {w : World}
theorem relS {L0 : GH} {og : Option Nat} {e : TypeId} {sz n : Nat} {f : Nat → List XV} {rest : List XV} (hF : Fre L0 og) (hn : og = none → n = 0) (hp : pdL rest = true) :
    Rel ⟨L0, 0, []⟩ (fun i => if i = 0 then some og else none) ⟨(0, .sl 0 sz 0 n) :: xslots 1 rest, [(0, .vec e true n sz f)], 1, false, []⟩ (tm0 (hv og sz n :: toAVL rest)) (updo L0 og ⟨e, true, vecOf n sz fun i => toAVL (f i)⟩) := by
  refine ⟨fun i => ?_, fun id r hfr => ?_, fun i j g' hi hj _ _ => ?_, fun id hid => ?_, fun b r hb => ?_, fun h => (by cases h), by simp [RVL]⟩
  · show RV _ (look ((0, .sl 0 sz 0 n) :: xslots 1 rest) i) _
    rw [look_put]
    by_cases hi : i = 0
    · rw [if_pos hi, hi]
      cases og with
      | some g => simp only [RV]; exact .inl ⟨g, by simp, by simp [tm0, hv]⟩
      | none => simp only [RV]; exact .inr ⟨by simp, hn rfl, trivial, by simp [tm0, hv]⟩
    · rw [if_neg hi]
      rcases look_slots 1 (pd_RVL (fun i => if i = 0 then some og else none) rest hp) i with k | k
      · rw [if_pos (by omega)] at k
        have : tm0 (hv og sz n :: toAVL rest) i = (toAVL rest).getD (i - 1) .top := by
          obtain ⟨j, rfl⟩ : ∃ j, i = j + 1 := ⟨i - 1, by omega⟩
          simp [tm0]
        rw [this]; exact k
      · rw [k]; simp [RV]
  · rw [findR_put] at hfr
    by_cases hid : id = 0
    · rw [if_pos hid] at hfr
      obtain rfl := Option.some.inj hfr
      subst hid
      cases og with
      | some g => exact .inl ⟨g, _, by simp, upd_same _ _ _, by simp only [RRow]⟩
      | none => obtain rfl := hn rfl; exact .inr ⟨by simp, e, sz, f, rfl⟩
    · rw [if_neg hid] at hfr; simp [findR] at hfr
  · rw [findR_put] at hi hj
    have a1 : i = 0 := by
      by_cases h : i = 0
      · exact h
      · rw [if_neg h] at hi; simp [findR] at hi
    have a2 : j = 0 := by
      by_cases h : j = 0
      · exact h
      · rw [if_neg h] at hj; simp [findR] at hj
    rw [a1, a2]
  · simp only at hid
    rw [if_neg (by omega)]
  · have hne : ∀ g, og = some g → b ≠ g := by
      rintro g h rfl
      have hb : L0 b = some r := hb
      rw [hF b h] at hb; cases hb
    constructor
    · cases og with
      | none => exact hb
      | some g => show upd L0 g _ b = _; rw [upd_ne _ _ _ _ (hne g rfl)]; exact hb
    · intro id hid
      by_cases h : id = 0
      · rw [if_pos h]
        intro h2
        exact hne b (Option.some.inj h2) rfl
      · rw [if_neg h]; simp
theorem sv_ok {X : Cx} (hX : X.ok P) {f0 : FuncId} {fn : Func} (hf : P.funcs[f0]? = some fn) (hb : fn.body = some (bodyOf fn)) (hr : (fn.name == "runtime.NumGoroutine") = false) {e : TypeId} {sz : Nat} {C : SvT}
    (h : ∀ n f rest cs m g, C n f rest = some (cs, m, g) → (∀ p ∈ cs, p) → Nat.ble (rest.length + 1) fn.ntmps = true ∧ pdL rest = true ∧ ∃ f', (∀ j, j < n → f j = f' j) ∧ ∃ sc, funS X fn sc e sz n f' rest m g) : ITok P f0 (itS e sz C) := by
  refine ⟨⟨fn, _, hf, hb, hr⟩, fun args S K hT F ρ t L bs hR0 ha => ?_⟩
  unfold itS at hT
  split at hT
  case h_2 => exact hT.elim
  rename_i id s n rest
  split at hT
  case h_2 => exact hT.elim
  rename_i e' n' s' f hq
  split at hT
  case h_2 => exact hT.elim
  rename_i cs m g q1 q2 q3 hC
  obtain ⟨rfl, hT⟩ := hT
  obtain ⟨hc, hK⟩ := andK_all _ _ hT
  rw [beqN, decide_eq_true_eq] at q1 q2 q3
  subst q1 q2 q3
  have hR := hR0.pl
  obtain ⟨b0, bs', rfl⟩ : ∃ b0 bs', bs = b0 :: bs' := by
    cases bs with
    | nil => simp [RVL] at ha
    | cons b l => exact ⟨b, l, rfl⟩
  simp only [RVL] at ha
  obtain ⟨ha0, ha⟩ := ha
  obtain ⟨h0, h1, f', hff, sc, h2⟩ := h _ _ _ _ _ _ hC hc
  have hbs := RVL.pd _ _ h1 ha
  subst hbs
  rw [bleN, decide_eq_true_eq] at h0
  have go : ∀ (L0 : GH) (og : Option Nat), L = updo L0 og ⟨e', true, vecOf n' s' fun i => toAVL (f i)⟩ → Fre L0 og → ρ id = some og → b0 = hv og s' n' → (og = none → n' = 0) →
      JF P f0 (b0 :: toAVL rest) L fun v L' => ∃ ρ' S' t' xv, Rel F ρ' S' t' L' ∧ RV ρ' xv v ∧ K xv S' := by
    intro L0 og hL hF hid hb0 hn
    subst hL hb0
    have hvf : vecOf n' s' (fun i => toAVL (f i)) = vecOf n' s' fun i => toAVL (f' i) := vecOf_congr fun j hj => by rw [hff j hj]
    rw [hvf] at hR ⊢
    refine (fun_ok hX hf hb (by simp only [List.length_cons, toAVL_length]; exact h0) (relS hF hn h1) h2).conv ?_
    rintro b L1 w x ⟨ρ', S', t', xv, hR', hv', hq'⟩ hrows hx
    unfold slIs at hq'
    split at hq'
    case h_2 => exact hq'.elim
    rename_i id' s'' n''
    split at hq'
    case h_2 => exact hq'.elim
    rename_i e'' ap n3 s3 f3 hf3
    obtain ⟨⟨rfl, rfl, rfl, rfl⟩, rfl, rfl, hfg⟩ := hq'
    have hvec : vecOf n3 s3 (fun j => toAVL (f3 j)) = vecOf n3 s3 fun j => toAVL (g j) := vecOf_congr fun j hj => by rw [hfg j hj]
    simp only [RV] at hv'
    rcases hv' with ⟨g1, hg1, rfl⟩ | ⟨hg1, hm0, -, rfl⟩
    · obtain ⟨row, hL1, hrow⟩ := (hR'.rw id' _ hf3).some_g hg1
      simp only [RRow] at hrow
      rw [hvec] at hrow
      have hF1 : L0 g1 = none := by
        cases hF1 : L0 g1 with
        | none => rfl
        | some r => exact absurd hg1 ((hR'.fr g1 r hF1).2 id' (by rw [hf3]; rfl))
      have hd : ∀ b, L1 b = none → upd L0 g1 row b = none := fun b hb => by
        rw [upd_ne]
        · exact dom_F hR' b hb
        · rintro rfl; rw [hL1] at hb; cases hb
      refine ⟨_, updo L0 (some g1) row, VS.ext (Ext.drop w hd) _ _ hx, fun b r hb => ?_, hd, ρ.set id (some g1), _, t, .sl id s3 0 n3, Rel.renew hR hF hq hid (fun g h => by obtain rfl := Option.some.inj h; exact hF1) (fun e ap cs h => by cases h) (.inl ⟨g1, rfl, by simp only [RRow]; exact hrow⟩), ?_, hK⟩
      · by_cases hbg : b = g1
        · subst hbg
          have hb : upd L0 b row b = some r := hb
          rw [upd_same] at hb
          obtain rfl := Option.some.inj hb
          exact (hrows b row hL1).ext (Ext.drop w hd) rfl
        · have hb : upd L0 g1 row b = some r := hb
          rw [upd_ne _ _ _ _ hbg] at hb
          exact (hrows b r (hR'.fr b r hb).1).ext (Ext.drop w hd) rfl
      · simp only [RV]
        exact .inl ⟨g1, set_same _ _ _, rfl⟩
    · subst hm0
      refine ⟨_, updo L0 none ⟨e'', true, []⟩, VS.ext (Ext.drop w (dom_F hR')) _ _ hx, rows_F hR' hrows, dom_F hR', ρ.set id none, _, t, .sl id s3 0 0, Rel.renew hR hF hq hid (fun g h => by cases h) (fun e ap cs h => by cases h) (.inr ⟨rfl, e'', s3, g, rfl⟩), ?_, hK⟩
      simp only [RV]
      exact .inr ⟨set_same _ _ _, trivial, trivial, trivial⟩
  simp only [RV] at ha0
  rcases ha0 with ⟨g0, hid, rfl⟩ | ⟨hid, hn0, -, rfl⟩
  · obtain ⟨row, hL, hrow⟩ := (hR.rw id _ hq).some_g hid
    simp only [RRow] at hrow
    subst hrow
    have := go (del L g0) (some g0) (by
      funext b'
      simp only [updo, upd, del]
      split
      · rename_i hb'; rw [hb', hL]
      · rfl) (fun g' h => by obtain rfl := Option.some.inj h; simp [del]) hid (by simp [hv]) (fun h => by cases h)
    exact this
  · exact go L none rfl (fun g' h => by cases h) hid rfl (fun _ => hn0)
theorem exvS {X : Cx} {fn : Func} {e : TypeId} {sz n : Nat} {f : Nat → List XV} {rest : List XV} {m : Nat} {g : Nat → List XV} {p : Prop} {sc : Sc} (h0 : p = funS X fn sc e sz n f rest m g) (h : p) : ∃ sc, funS X fn sc e sz n f rest m g := ⟨sc, h0 ▸ h⟩
theorem Cx.ok.setK {X : Cx} (hX : X.ok P) (b : Bool) : ({ X with K := b } : Cx).ok P := ⟨hX.U, hX.I, hX.C, hX.H, hX.N, hX.M, hX.L, hX.E⟩
/-! Functions that have a variable bound in which a slice of one's own stands -/
theorem relB {L0 : GH} {gv : Nat} {og : Option Nat} {eT e : TypeId} {sz n : Nat} {f : Nat → List XV} {x : XV} (hgv : L0 gv = none) (hF : Fre L0 og) (hne : og ≠ some gv) (hn : og = none → n = 0) (hp : x.pd = true) :
    Rel ⟨L0, gv, []⟩ (fun i => if i = 0 then some (some gv) else if i = 1 then some og else none) ⟨xslots 0 [x, .ptr 0 0 0 0], [(0, .one eT true [.sl 1 sz 0 n]), (1, .vec e true n sz f)], 2, true, []⟩ (tm0 [toAV x, .ptr gv 0]) (upd (updo L0 og ⟨e, true, vecOf n sz fun i => toAVL (f i)⟩) gv ⟨eT, true, [hv og sz n]⟩) := by
  have hrg : ∀ g, og = some g → g ≠ gv := by rintro g rfl rfl; exact hne rfl
  have hup : ∀ b r, L0 b = some r → upd (updo L0 og ⟨e, true, vecOf n sz fun i => toAVL (f i)⟩) gv ⟨eT, true, [hv og sz n]⟩ b = some r := by
    intro b r hb
    rw [upd_ne _ _ _ _ (by rintro rfl; rw [hgv] at hb; cases hb)]
    cases og with
    | none => exact hb
    | some g => show upd L0 g _ b = _; rw [upd_ne _ _ _ _ (by rintro rfl; rw [hF _ rfl] at hb; cases hb)]; exact hb
  have hfind : ∀ id r, findR [(0, XRow.one eT true [.sl 1 sz 0 n]), (1, XRow.vec e true n sz f)] id = some r → (id = 0 ∧ r = .one eT true [.sl 1 sz 0 n]) ∨ (id = 1 ∧ r = .vec e true n sz f) := by
    intro id r h
    rw [findR_put] at h
    by_cases h0 : id = 0
    · rw [if_pos h0] at h; exact .inl ⟨h0, (Option.some.inj h).symm⟩
    · rw [if_neg h0, findR_put] at h
      by_cases h1 : id = 1
      · rw [if_pos h1] at h; exact .inr ⟨h1, (Option.some.inj h).symm⟩
      · rw [if_neg h1] at h; simp [findR] at h
  have hsome : ∀ id, (findR [(0, XRow.one eT true [.sl 1 sz 0 n]), (1, XRow.vec e true n sz f)] id).isSome = true → id = 0 ∨ id = 1 := by
    intro id h
    cases hq : findR [(0, XRow.one eT true [.sl 1 sz 0 n]), (1, XRow.vec e true n sz f)] id with
    | none => rw [hq] at h; cases h
    | some r => rcases hfind id r hq with ⟨h, _⟩ | ⟨h, _⟩ <;> omega
  refine ⟨fun i => ?_, fun id r hfr => ?_, fun i j g' hi hj h1 h2 => ?_, fun id hid => ?_, fun b r hb => ⟨hup b r hb, fun id hid => ?_⟩, fun _ => ⟨by simp, by simp, _, _, _, rfl⟩, by simp [RVL]⟩
  · have hv : RVL (fun i => if i = 0 then some (some gv) else if i = 1 then some og else none) [x, .ptr 0 0 0 0] [toAV x, .ptr gv 0] := by
      simp only [RVL, RV]
      exact ⟨pd_RV _ x hp, ⟨gv, by simp, by simp⟩, trivial⟩
    rcases look_slots 0 hv i with h1 | h1
    · simpa [tm0] using h1
    · show RV _ (look (xslots 0 [x, .ptr 0 0 0 0]) i) _
      rw [h1]; simp [RV]
  · rcases hfind id r hfr with ⟨rfl, rfl⟩ | ⟨rfl, rfl⟩
    · refine .inl ⟨gv, _, by simp, upd_same _ _ _, ?_⟩
      simp only [RRow, RVL]
      refine ⟨trivial, trivial, ?_, trivial⟩
      cases og with
      | some g => simp only [RV]; exact .inl ⟨g, by simp, by simp [hv]⟩
      | none => simp only [RV]; exact .inr ⟨by simp, hn rfl, trivial, by simp [hv]⟩
    · cases og with
      | some g => exact .inl ⟨g, _, by simp, by rw [upd_ne _ _ _ _ (hrg g rfl)]; exact upd_same _ _ _, by simp only [RRow]⟩
      | none => obtain rfl := hn rfl; exact .inr ⟨by simp, e, sz, f, rfl⟩
  · have a1 := hsome i hi
    have a2 := hsome j hj
    rcases a1 with rfl | rfl <;> rcases a2 with rfl | rfl
    · rfl
    · simp only [if_pos] at h1 h2
      obtain rfl := Option.some.inj (Option.some.inj h1)
      have h2 : some og = some (some gv) := h2
      exact absurd (Option.some.inj h2) hne
    · simp only [if_pos] at h1 h2
      obtain rfl := Option.some.inj (Option.some.inj h2)
      have h1 : some og = some (some gv) := h1
      exact absurd (Option.some.inj h1) hne
    · rfl
  · simp only at hid
    rw [if_neg (by omega), if_neg (by omega)]
  · rcases hsome id hid with rfl | rfl
    · simp only [if_pos]
      intro h
      obtain rfl := Option.some.inj (Option.some.inj h)
      have hb : L0 gv = some r := hb
      rw [hgv] at hb; cases hb
    · show some og ≠ some (some b)
      intro h
      have := hF b (Option.some.inj h)
      have hb : L0 b = some r := hb
      rw [this] at hb; cases hb
theorem sb_ok {X : Cx} (hX : X.ok P) {f0 : FuncId} {fn : Func} (hf : P.funcs[f0]? = some fn) (hb : fn.body = some (bodyOf fn)) (hr : (fn.name == "runtime.NumGoroutine") = false) {eT e : TypeId} {sz : Nat} {C : SvT}
    (h : ∀ n f x cs m g, C n f [x] = some (cs, m, g) → (∀ p ∈ cs, p) → Nat.ble 2 fn.ntmps = true ∧ x.pd = true ∧ ∃ x' f', x'.pd = true ∧ toAV x' = toAV x ∧ (∀ j, j < n → f j = f' j) ∧ ∃ sc, funB X fn sc eT e sz n f' x' m g) : ITok P f0 (itB eT e sz C) := by
  refine ⟨⟨fn, _, hf, hb, hr⟩, fun args S K hT F ρ t L bs hR0 ha => ?_⟩
  unfold itB at hT
  split at hT
  case h_2 => exact hT.elim
  rename_i x v
  split at hT
  case h_2 => exact hT.elim
  rename_i e1 id s n hq1
  split at hT
  case h_2 => exact hT.elim
  rename_i e' n' s' f hq2
  split at hT
  case h_2 => exact hT.elim
  rename_i cs m g q0 q1 q2 q3 hC
  obtain ⟨rfl, hT⟩ := hT
  obtain ⟨hc, hK⟩ := andK_all _ _ hT
  rw [beqN, decide_eq_true_eq] at q0 q1 q2 q3
  subst q0 q1 q2 q3
  have hR := hR0.pl
  obtain ⟨b0, b1, rfl⟩ : ∃ b0 b1, bs = [b0, b1] := by
    cases bs with
    | nil => simp [RVL] at ha
    | cons b l =>
      cases l with
      | nil => simp [RVL] at ha
      | cons b2 l2 =>
        cases l2 with
        | nil => exact ⟨b, b2, rfl⟩
        | cons _ _ => simp [RVL] at ha
  simp only [RVL] at ha
  obtain ⟨ha0, ha1, -⟩ := ha
  simp only [RV] at ha1
  obtain ⟨gv, hgv, rfl⟩ := ha1
  obtain ⟨h0, h1, x', f', h1', hxx, hff, sc, h2⟩ := h _ _ _ _ _ _ hC hc
  have hbs := RV.pd _ _ h1 ha0
  subst hbs
  rw [← hxx]
  rw [bleN, decide_eq_true_eq] at h0
  have hvid : v ≠ id := by
    rintro rfl
    have hq1 : findR (plH S.h) v = _ := hq1
    rw [hq1] at hq2; cases hq2
  obtain ⟨⟨re, rap, rcs⟩, hLv, hrow⟩ := (hR.rw v _ hq1).some_g hgv
  simp only [RRow] at hrow
  obtain ⟨rfl, rfl, hrow⟩ := hrow
  obtain ⟨c, rfl⟩ : ∃ c, rcs = [c] := by
    cases rcs with
    | nil => simp [RVL] at hrow
    | cons b l =>
      cases l with
      | nil => exact ⟨b, rfl⟩
      | cons _ _ => simp [RVL] at hrow
  simp only [RVL] at hrow
  have hrow := hrow.1
  -- the slice's block
  obtain ⟨og, hid, hcc, hn⟩ : ∃ og, ρ id = some og ∧ c = hv og s' n' ∧ (og = none → n' = 0) := by
    simp only [RV] at hrow
    rcases hrow with ⟨g1, k1, rfl⟩ | ⟨k1, k2, -, rfl⟩
    · exact ⟨some g1, k1, by simp [hv], fun h => by cases h⟩
    · exact ⟨none, k1, by simp [hv], fun _ => k2⟩
  subst hcc
  have hne : og ≠ some gv := by
    rintro rfl
    exact hvid (hR.inj v id gv (by show (findR (plH S.h) v).isSome = true; rw [hq1]; rfl) (by show (findR (plH S.h) id).isSome = true; rw [hq2]; rfl) hgv hid)
  have hLid : ∀ g1, og = some g1 → L g1 = some ⟨e', true, vecOf n' s' fun i => toAVL (f i)⟩ := by
    rintro g1 rfl
    obtain ⟨row, k1, k2⟩ := (hR.rw id _ hq2).some_g hid
    simp only [RRow] at k2
    rw [k1, k2]
  let L0 : GH := del (match og with | some g1 => del L g1 | none => L) gv
  have l0 : L0 = del (match og with | some g1 => del L g1 | none => L) gv := rfl
  have hgv0 : L0 gv = none := by simp [l0, del]
  have hF0 : Fre L0 og := by
    rintro g1 rfl
    simp only [l0, del]
    split
    · rfl
    · simp
  have hvf : vecOf n' s' (fun i => toAVL (f i)) = vecOf n' s' fun i => toAVL (f' i) := vecOf_congr fun j hj => by rw [hff j hj]
  have hLL : L = upd (updo L0 og ⟨e', true, vecOf n' s' fun i => toAVL (f' i)⟩) gv ⟨re, true, [hv og s' n']⟩ := by
    funext b
    simp only [upd]
    split
    · rename_i hb'; rw [hb', hLv]
    · rename_i hb'
      cases og with
      | none =>
        show L b = L0 b
        simp only [l0, del]
        rw [if_neg hb']
      | some g1 =>
        show L b = upd L0 g1 _ b
        simp only [upd]
        split
        · rename_i hb2; rw [hb2, hLid g1 rfl, hvf]
        · rename_i hb2
          simp only [l0, del]
          rw [if_neg hb', if_neg hb2]
  have hrun := fun_ok hX hf hb (bs := [toAV x', .ptr gv 0]) (by simpa using h0) (relB hgv0 hF0 hne hn h1') h2
  rw [← hLL] at hrun
  have eb1 : AV.ptr gv (0 * 0 + 0) = .ptr gv 0 := rfl
  rw [eb1]
  refine hrun.conv ?_
  rintro b L1 w y ⟨ρ', S', t', xv, hR', hv', hq'⟩ hrows hx
  split at hq'
  case h_2 => exact hq'.elim
  rename_i hpn
  obtain ⟨p1, -, -⟩ := hR'.pin hpn
  unfold cellB at hq'
  split at hq'
  case h_2 => exact hq'.elim
  rename_i e1 ap id' s3 m3 hfc
  split at hq'
  case h_2 => exact hq'.elim
  rename_i e2 ap2 n2 s2 f3 hfv
  obtain ⟨⟨rfl, rfl, rfl, rfl, rfl, rfl⟩, rfl, rfl, hfg⟩ := hq'
  have hvec : vecOf n2 s2 (fun j => toAVL (f3 j)) = vecOf n2 s2 fun j => toAVL (g j) := vecOf_congr fun j hj => by rw [hfg j hj]
  obtain ⟨⟨re1, rap1, rcs1⟩, hL1v, hrow1⟩ := (hR'.rw 0 _ hfc).some_g p1
  simp only [RRow] at hrow1
  obtain ⟨rfl, rfl, hrow1⟩ := hrow1
  obtain ⟨c1, rfl⟩ : ∃ c, rcs1 = [c] := by
    cases rcs1 with
    | nil => simp [RVL] at hrow1
    | cons b l =>
      cases l with
      | nil => exact ⟨b, rfl⟩
      | cons _ _ => simp [RVL] at hrow1
  simp only [RVL] at hrow1
  have hrow1 := hrow1.1
  obtain ⟨og1, hid1, hcc1, hn1⟩ : ∃ og, ρ' id' = some og ∧ c1 = hv og s2 n2 ∧ (og = none → n2 = 0) := by
    simp only [RV] at hrow1
    rcases hrow1 with ⟨g1, k1, rfl⟩ | ⟨k1, k2, -, rfl⟩
    · exact ⟨some g1, k1, by simp [hv], fun h => by cases h⟩
    · exact ⟨none, k1, by simp [hv], fun _ => k2⟩
  subst hcc1
  have hL1id : ∀ g1, og1 = some g1 → L1 g1 = some ⟨e2, true, vecOf n2 s2 fun i => toAVL (g i)⟩ := by
    rintro g1 rfl
    obtain ⟨row, k1, k2⟩ := (hR'.rw id' _ hfv).some_g hid1
    simp only [RRow] at k2
    rw [k1, k2, hvec]
  have hne1 : og1 ≠ some gv := by
    rintro rfl
    have := hR'.inj 0 id' gv (by rw [hfc]; rfl) (by rw [hfv]; rfl) p1 hid1
    subst this
    rw [hfc] at hfv; cases hfv
  have hL0g : ∀ g1, og1 = some g1 → L0 g1 = none := by
    rintro g1 rfl
    cases hh : L0 g1 with
    | none => rfl
    | some r => exact absurd hid1 ((hR'.fr g1 r hh).2 id' (by rw [hfv]; rfl))
  -- what the caller knows then
  have hF2 : Fre (upd L0 gv ⟨re1, true, [hv og s2 n']⟩) og := by
    rintro g1 rfl
    rw [upd_ne _ _ _ _ (by rintro rfl; exact hne rfl)]
    exact hF0 g1 rfl
  have hF3 : Fre (upd L0 gv ⟨re1, true, [hv og s2 n']⟩) og1 := by
    rintro g1 rfl
    rw [upd_ne _ _ _ _ (by rintro rfl; exact hne1 rfl)]
    exact hL0g g1 rfl
  have hLL2 : L = updo (upd L0 gv ⟨re1, true, [hv og s2 n']⟩) og ⟨e2, true, vecOf n' s2 fun i => toAVL (f' i)⟩ := by
    rw [hLL]
    funext b
    cases og with
    | none => rfl
    | some g1 =>
      show upd (upd L0 g1 _) gv _ b = upd (upd L0 gv _) g1 _ b
      simp only [upd]
      by_cases k1 : b = gv
      · rw [if_pos k1, if_neg (by rintro rfl; exact hne (by rw [k1]))]
        rw [if_pos k1]
      · rw [if_neg k1]
        by_cases k2 : b = g1
        · rw [if_pos k2, if_pos k2]
        · rw [if_neg k2, if_neg k2, if_neg k1]
  rw [hLL2] at hR
  have hR2 := Rel.renew (og' := og1) (r := .vec e2 true n2 s2 g) (row := ⟨e2, true, vecOf n2 s2 fun i => toAVL (g i)⟩) hR hF2 hq2 hid hF3 (fun e ap cs h => by cases h) (by
    cases og1 with
    | some g1 => exact .inl ⟨g1, rfl, by simp only [RRow]⟩
    | none => obtain rfl := hn1 rfl; exact .inr ⟨rfl, e2, s2, g, rfl⟩)
  have hfr2 : findR ((id, XRow.vec e2 true n2 s2 g) :: dropH id (delR (plH S.h) id)) v = some (dropRow id (.one re1 true [.sl id s2 0 n'])) := by
    rw [findR_put, if_neg hvid, findR_drop, findR_del, if_neg hvid]
    have hq1 : findR (plH S.h) v = _ := hq1
    rw [hq1]; rfl
  have hR3 := Rel.wr hR2 (id := v) (g := gv) (r := .one re1 true [.sl id s2 0 n2]) (row := ⟨re1, true, [hv og1 s2 n2]⟩) (by
      show (findR ((id, XRow.vec e2 true n2 s2 g) :: dropH id (delR (plH S.h) id)) v).isSome = true
      rw [hfr2]; rfl) (by rw [set_ne _ _ hvid]; exact hgv) (by
      simp only [RRow, RVL]
      refine ⟨trivial, trivial, ?_, trivial⟩
      cases og1 with
      | some g1 => simp only [RV]; exact .inl ⟨g1, set_same _ _ _, by simp [hv]⟩
      | none => simp only [RV]; exact .inr ⟨set_same _ _ _, hn1 rfl, trivial, by simp [hv]⟩) (fun _ _ _ _ => ⟨_, _, _, rfl⟩)
  have hcase : ∀ b r, upd (updo (upd L0 gv ⟨re1, true, [hv og s2 n']⟩) og1 ⟨e2, true, vecOf n2 s2 fun i => toAVL (g i)⟩) gv ⟨re1, true, [hv og1 s2 n2]⟩ b = some r → L1 b = some r := by
    intro b r hb'
    simp only [upd] at hb'
    split at hb'
    · rename_i k1; rw [k1, hL1v]; exact hb'
    · rename_i k1
      have base : upd L0 gv ⟨re1, true, [hv og s2 n']⟩ b = some r → L1 b = some r := fun k => by
        rw [upd_ne _ _ _ _ k1] at k
        exact (hR'.fr b r k).1
      cases og1 with
      | none => exact base hb'
      | some g1 =>
        have hb' : upd (upd L0 gv _) g1 _ b = some r := hb'
        by_cases k2 : b = g1
        · rw [k2, upd_same] at hb'
          rw [k2, hL1id g1 rfl]; exact hb'
        · rw [upd_ne _ _ _ _ k2] at hb'
          exact base hb'
  have hd : ∀ b, L1 b = none → upd (updo (upd L0 gv ⟨re1, true, [hv og s2 n']⟩) og1 ⟨e2, true, vecOf n2 s2 fun i => toAVL (g i)⟩) gv ⟨re1, true, [hv og1 s2 n2]⟩ b = none := by
    intro b hb'
    cases hh : upd (updo (upd L0 gv ⟨re1, true, [hv og s2 n']⟩) og1 ⟨e2, true, vecOf n2 s2 fun i => toAVL (g i)⟩) gv ⟨re1, true, [hv og1 s2 n2]⟩ b with
    | none => rfl
    | some r => rw [hcase b r hh] at hb'; cases hb'
  refine ⟨b, _, VS.ext (Ext.drop w hd) _ _ hx, fun b r hb' => (hrows b r (hcase b r hb')).ext (Ext.drop w hd) rfl, hd, _, _, t, .tup [], hR3, ?_, hK⟩
  have hv' : RV ρ' (.tup []) b := hv'
  simp only [RV] at hv' ⊢
  obtain ⟨bs, rfl, k⟩ := hv'
  cases bs with
  | nil => exact ⟨[], rfl, by simp [RVL]⟩
  | cons _ _ => simp [RVL] at k
theorem exvB {X : Cx} {fn : Func} {eT e : TypeId} {sz n : Nat} {f : Nat → List XV} {x : XV} {m : Nat} {g : Nat → List XV} {p : Prop} {sc : Sc} (h0 : p = funB X fn sc eT e sz n f x m g) (h : p) : ∃ sc, funB X fn sc eT e sz n f x m g := ⟨sc, h0 ▸ h⟩
end
end Go.Proofs.YthomfpdigmeheaaDoorAv
set_option linter.unusedVariables false
set_option linter.unusedSimpArgs false
set_option maxRecDepth 100000
namespace Go.Proofs.YthomfpdigmeheaaDoorAv
open Go Go.RowKit
/-- A number's digits. -/
def nmG (b : Int) : Nat → Int → Int → List Int
  | 0, _, _ => []
  | f + 1, q, k => if q < thr k b then [dgt q] else dgt (thr k b + (q - thr k b) % (36 - thr k b)) :: nmG b f ((q - thr k b) / (36 - thr k b)) (k + 36)
def num (q b : Int) : List Int := nmG b 19 q 36
def nmK (c : List Int) (b : Int) (f : Nat) (q k : Int) : List Int := c ++ nmG b f q k
def cxn : Cx := { cx0 with C := [(43, thrC), (45, dgtC)] }
theorem cxn_ok : cxn.ok Tryd.prog := (cx0_ok.addC dgt_ok).addC thr_ok
structure NS where
  f : Nat
  q : Int
  k : Int
  c : List Int
def nmC (n : Nat) (h : Nat → Int) (c : List Int) (j : Nat) : Int := if j < n then h j else c.getD (j - n) 0
def nmI (n : Nat) (h : Nat → Int) (q0 b : Int) : Inv where
  σ := NS
  S := fun x => ⟨[(0, .sl 0 1 0 (n + x.c.length)), (1, XI x.q), (2, XI b), (7, XI x.k)], [(0, .vec 5 true (n + x.c.length) 1 fun j => [X8 (nmC n h x.c j)])], 1, false, []⟩
  inv := fun x => 0 ≤ x.q ∧ x.q < 10 ^ x.f ∧ x.f ≤ 18 ∧ x.k = 36 * (19 - x.f) ∧ nmK x.c b (x.f + 1) x.q x.k = num q0 b ∧ x.c.length + x.f = 18
  μ := fun x => x.f
def nmE (n : Nat) (h : Nat → Int) (q0 b : Int) : Env := { loops := [(0, nmI n h q0 b)] }
def numV (n : Nat) (h : Nat → Int) (q b : Int) : Prop :=
  (∃ (x : (nmI n h q b).σ), ((0 : Int) ≤ x.q ∧ x.q < (10 : Int) ^ x.f ∧ x.f ≤ (18 : Nat) ∧ x.k = (36 : Int) * ((19 : Int) - (↑x.f : Int)) ∧ nmK x.c b (x.f + (1 : Nat)) x.q x.k = num q b ∧ x.c.length + x.f = (18 : Nat)) ∧ true = true ∧ XV.sl (0 : Nat) (1 : Nat) (0 : Nat) n = XV.sl (0 : Nat) (1 : Nat) (0 : Nat) (n + x.c.length) ∧ q = x.q ∧ b = b ∧ (36 : Int) = x.k ∧ (((5 : TypeId) = (5 : TypeId) ∧ true = true ∧ (1 : Nat) = (1 : Nat)) ∧ n = n + x.c.length ∧ ∀ (j : Nat), j < n → [X8 (h j)] = [X8 (nmC n h x.c j)]) ∧ True) ∧ ∀ (x : NS), (0 : Int) ≤ x.q ∧ x.q < (10 : Int) ^ x.f ∧ x.f ≤ (18 : Nat) ∧ x.k = (36 : Int) * ((19 : Int) - (↑x.f : Int)) ∧ nmK x.c b (x.f + (1 : Nat)) x.q x.k = num q b ∧ x.c.length + x.f = (18 : Nat) → in64 (x.k - b) ∧ (decide (x.q < thr x.k b) = true → (0 : Int) ≤ x.q ∧ x.q < (36 : Int) ∧ n + x.c.length = n + x.c.length ∧ (n + x.c.length + (1 : Nat)) * (1 : Nat) ≤ (140737488355328 : Nat) ∧ n + x.c.length + (1 : Nat) ≤ (140737488355328 : Nat) ∧ ((5 : TypeId) = (5 : TypeId) ∧ true = true ∧ (1 : Nat) = (1 : Nat) ∧ (1 : Nat) = (1 : Nat)) ∧ n + x.c.length + (1 : Nat) = n + x.c.length + (1 : Nat) ∧ n + x.c.length + (1 : Nat) = n + (num q b).length ∧ ∀ (j : Nat), j < n + (num q b).length → [Bool.rec (X8 (dgt x.q)) (X8 (nmC n h x.c j)) (j.blt (n + x.c.length))] = [X8 (nmC n h (num q b) j)]) ∧ (decide (x.q < thr x.k b) = false → in64 (x.q - thr x.k b) ∧ in64 ((36 : Int) - thr x.k b) ∧ (36 : Int) - thr x.k b ≠ (0 : Int) ∧ in64 (thr x.k b + (x.q - thr x.k b).tmod ((36 : Int) - thr x.k b)) ∧ (0 : Int) ≤ thr x.k b + (x.q - thr x.k b).tmod ((36 : Int) - thr x.k b) ∧ thr x.k b + (x.q - thr x.k b).tmod ((36 : Int) - thr x.k b) < (36 : Int) ∧ n + x.c.length = n + x.c.length ∧ (n + x.c.length + (1 : Nat)) * (1 : Nat) ≤ (140737488355328 : Nat) ∧ n + x.c.length + (1 : Nat) ≤ (140737488355328 : Nat) ∧ in64 (x.q - thr x.k b) ∧ in64 ((36 : Int) - thr x.k b) ∧ (36 : Int) - thr x.k b ≠ (0 : Int) ∧ in64 (x.k + (36 : Int)) ∧ ∃ (x' : (nmI n h q b).σ), ((0 : Int) ≤ x'.q ∧ x'.q < (10 : Int) ^ x'.f ∧ x'.f ≤ (18 : Nat) ∧ x'.k = (36 : Int) * ((19 : Int) - (↑x'.f : Int)) ∧ nmK x'.c b (x'.f + (1 : Nat)) x'.q x'.k = num q b ∧ x'.c.length + x'.f = (18 : Nat)) ∧ x'.f < x.f ∧ true = true ∧ XV.sl (0 : Nat) (1 : Nat) (0 : Nat) (n + x.c.length + (1 : Nat)) = XV.sl (0 : Nat) (1 : Nat) (0 : Nat) (n + x'.c.length) ∧ IntKind.i64.wrap ((x.q - thr x.k b).tdiv ((36 : Int) - thr x.k b)) = x'.q ∧ b = b ∧ x.k + (36 : Int) = x'.k ∧ (((5 : TypeId) = (5 : TypeId) ∧ true = true ∧ (1 : Nat) = (1 : Nat)) ∧ n + x.c.length + (1 : Nat) = n + x'.c.length ∧ ∀ (j : Nat), j < n + x.c.length + (1 : Nat) → [Bool.rec (X8 (dgt (thr x.k b + (x.q - thr x.k b).tmod ((36 : Int) - thr x.k b)))) (X8 (nmC n h x.c j)) (j.blt (n + x.c.length))] = [X8 (nmC n h x'.c j)]) ∧ True)
theorem numV_eq (n : Nat) (h : Nat → Int) (q b : Int) : numV n h q b = (funS cxn Tryd.f37 (mkSc (nmE n h q b) (bodyOf Tryd.f37)) 5 1 n (fun j => [X8 (h j)]) [XI q, XI b] (n + (num q b).length) (fun j => [X8 (nmC n h (num q b) j)])) := by kernel_rfl
theorem nmG_no {b q k : Int} {f : Nat} (h : ¬ q < thr k b) : nmG b (f + 1) q k = dgt (thr k b + (q - thr k b) % (36 - thr k b)) :: nmG b f ((q - thr k b) / (36 - thr k b)) (k + 36) := by rw [nmG, if_neg h]
theorem nmG_len (b : Int) : ∀ (f : Nat) (q k : Int), (nmG b f q k).length ≤ f
  | 0, q, k => Nat.le_refl _
  | f + 1, q, k => by
    rw [nmG]
    split
    · simp
    · have := nmG_len b f ((q - thr k b) / (36 - thr k b)) (k + 36)
      simp only [List.length_cons]; omega
theorem num_len (q b : Int) : (num q b).length ≤ 19 := nmG_len b 19 q 36
theorem nmC_snoc (n : Nat) (h : Nat → Int) (c : List Int) (d : Int) (j : Nat) (hj : j < n + c.length + 1) : nmC n h (c ++ [d]) j = bif Nat.blt j (n + c.length) then nmC n h c j else d := by
  unfold nmC
  rw [bltN]
  by_cases e : j < n + c.length
  · rw [decide_eq_true e]
    by_cases e1 : j < n
    · rw [if_pos e1, if_pos e1]; rfl
    · rw [if_neg e1, if_neg e1, List.getD_eq_getElem?_getD, List.getD_eq_getElem?_getD, List.getElem?_append_left (by omega)]; rfl
  · rw [decide_eq_false e, if_neg (by omega), show j - n = c.length by omega]
    simp
theorem nmC_snoc' (n : Nat) (h : Nat → Int) (c : List Int) (d : Int) (j : Nat) (hj : j < n + c.length + 1) : ([Bool.rec (X8 d) (X8 (nmC n h c j)) (j.blt (n + c.length))] : List XV) = [X8 (nmC n h (c ++ [d]) j)] := by
  rw [nmC_snoc n h c d j hj]
  cases j.blt (n + c.length) <;> rfl
theorem num_v (n : Nat) (h : Nat → Int) (q b : Int) (h0 : 0 ≤ q) (h1 : q < 1000000000000000000) (hb : -1000 ≤ b) (hb1 : b ≤ 1000) (hn : n ≤ 1000000) : numV n h q b := by
  unfold numV
  refine ⟨⟨⟨18, q, 36, []⟩, ⟨h0, h1, Nat.le_refl _, rfl, rfl, rfl⟩, rfl, rfl, rfl, rfl, rfl, ⟨⟨rfl, rfl, rfl⟩, rfl, fun j hj => by show [X8 (h j)] = [X8 (nmC n h [] j)]; unfold nmC; rw [if_pos hj]⟩, trivial⟩, ?_⟩
  rintro ⟨f, q', k, c⟩ hI
  obtain ⟨i0, i1, i2, i3, i4, i5⟩ : 0 ≤ q' ∧ q' < 10 ^ f ∧ f ≤ 18 ∧ k = 36 * (19 - (f : Int)) ∧ nmK c b (f + 1) q' k = num q b ∧ c.length + f = 18 := hI
  unfold nmK at i4
  have hp : (10 : Int) ^ f ≤ 10 ^ 18 := by
    have : (10 : Nat) ^ f ≤ 10 ^ 18 := Nat.pow_le_pow_right (by decide) i2
    exact_mod_cast this
  have ht := thr_rng k b
  have hq : q' < 10 ^ 18 := by omega
  dsimp only
  refine ⟨by unfold in64; omega, fun h1 => ?_, fun h1 => ?_⟩
  · have h1 : q' < thr k b := of_decide_eq_true h1
    have hg : num q b = c ++ [dgt q'] := by rw [← i4, nmG, if_pos h1]
    refine ⟨by omega, by omega, rfl, by omega, by omega, ⟨rfl, rfl, rfl, rfl⟩, rfl, by rw [hg, List.length_append]; rfl, fun j hj => ?_⟩
    rw [hg]
    exact nmC_snoc' n h c _ j (by rw [hg, List.length_append] at hj; exact hj)
  · have hlt : ¬ q' < thr k b := of_decide_eq_false h1
    clear h1
    cases f with
    | zero => simp at i1; omega
    | succ f =>
      have hg : c ++ (dgt (thr k b + (q' - thr k b) % (36 - thr k b)) :: nmG b (f + 1) ((q' - thr k b) / (36 - thr k b)) (k + 36)) = num q b := by rw [← i4, nmG_no hlt]
      generalize thr k b = t at *
      have e1 : (q' - t).tmod (36 - t) = (q' - t) % (36 - t) := Int.tmod_eq_emod_of_nonneg (by omega)
      have e2 := wdiv (a := q' - t) (b := 36 - t) (by omega) (by omega) (by omega)
      rw [e1, e2]
      have r1 : 0 ≤ (q' - t) % (36 - t) := Int.emod_nonneg _ (by omega)
      have r2 : (q' - t) % (36 - t) < 36 - t := Int.emod_lt_of_pos _ (by omega)
      have r3 : 0 ≤ (q' - t) / (36 - t) := Int.ediv_nonneg (by omega) (by omega)
      have r4 : (q' - t) / (36 - t) < 10 ^ f := by
        rw [Int.pow_succ] at i1
        have hp0 : (0 : Int) ≤ 10 ^ f := Int.le_of_lt (Int.pow_pos (by decide))
        apply Int.ediv_lt_of_lt_mul (by omega)
        generalize (10 : Int) ^ f = z at *
        have : z * 10 ≤ z * (36 - t) := Int.mul_le_mul_of_nonneg_left (by omega) hp0
        omega
      refine ⟨by unfold in64; omega, by unfold in64; omega, by omega, by unfold in64; omega, by omega, by omega, rfl, by omega, by omega, by unfold in64; omega, by unfold in64; omega, by omega, by unfold in64; omega,
        ⟨f, (q' - t) / (36 - t), k + 36, c ++ [dgt (t + (q' - t) % (36 - t))]⟩, ⟨r3, r4, by show f ≤ 18; omega, by show k + 36 = 36 * (19 - (f : Int)); omega, ?_, by show (c ++ [_]).length + f = 18; rw [List.length_append]; show c.length + 1 + f = 18; omega⟩, by show f < f + 1; omega, rfl, ?_, rfl, rfl, rfl, ⟨⟨rfl, rfl, rfl⟩, ?_, fun j hj => nmC_snoc' n h c _ j hj⟩, trivial⟩
      · show (c ++ [_]) ++ _ = _
        rw [List.append_assoc]
        exact hg
      · dsimp only; rw [List.length_append]; rfl
      · dsimp only; rw [List.length_append]; rfl
def int8 : XV → Int
  | .v (.p (.int .u8 i)) => i
  | _ => 0
def numC : SvT := fun n f rest => match rest with
  | [.v (.p (.int .i64 q)), .v (.p (.int .i64 b))] => some ([∀ j, j < n → f j = [X8 (int8 (xget (f j) 0))], 0 ≤ q, q < 1000000000000000000, -1000 ≤ b, b ≤ 1000, n ≤ 1000000], n + (num q b).length, fun j => [X8 (nmC n (fun j => int8 (xget (f j) 0)) (num q b) j)])
  | _ => none
def cxe : Cx := { cx0 with C := [(38, adpC)], L := [(37, itS 5 1 numC)] }
/-- The runes below 128, in order. -/
def eo0 (g : Nat → Int) : Nat → List Int
  | 0 => []
  | i + 1 => if g i < 128 then eo0 g i ++ [g i] else eo0 g i
/-- The least rune that is not below n. -/
def mnr (g : Nat → Int) (n : Int) : Nat → Int
  | 0 => 1114112
  | i + 1 => if g i ≥ n ∧ g i < mnr g n i then g i else mnr g n i
structure ES where
  h : Int
  d : Int
  b : Int
  o : List Int
def stp (h0 m : Int) (s : ES) (r : Int) : ES :=
  if r = m then ⟨s.h + 1, 0, adp s.d (s.h + 1) (s.h == h0), s.o ++ num s.d s.b⟩ else if r < m then { s with d := s.d + 1 } else s
def fol (g : Nat → Int) (h0 m : Int) (s : ES) : Nat → ES
  | 0 => s
  | i + 1 => stp h0 m (fol g h0 m s i) (g i)
def rnd (g : Nat → Int) (len : Nat) (h0 n : Int) (s : ES) : ES :=
  fol g h0 (mnr g n len) { s with d := s.d + (mnr g n len - n) * (s.h + 1) } len
def encG (g : Nat → Int) (len : Nat) (h0 : Int) : Nat → Int → ES → List Int × Int
  | 0, _, s => if s.o.length > 63 then ([], 2) else (s.o, 0)
  | f + 1, n, s => if s.o.length > 63 then ([], 2) else if s.h < len then encG g len h0 f (mnr g n len + 1) { rnd g len h0 n s with d := (rnd g len h0 n s).d + 1 } else (s.o, 0)
def eo1 (g : Nat → Int) (len : Nat) : List Int := if 0 < (eo0 g len).length then eo0 g len ++ [45] else eo0 g len
def encR (g : Nat → Int) (len : Nat) : List Int × Int := encG g len (eo0 g len).length len 128 ⟨(eo0 g len).length, 0, 72, eo1 g len⟩
def txtO (o : List Int) : ByteArray := txtOf o.length fun j => UInt8.ofNat (o.getD (0 + j) 0).toNat
structure OS where
  n : Int
  s : ES
  f : Nat
abbrev rnX (q : Sq Int) : XV := .fz q.n 1 fun i => [X32 (q.g i)]
/-- How many runes are below n. -/
def clt (g : Nat → Int) (n : Int) : Nat → Int
  | 0 => 0
  | i + 1 => if g i < n then clt g n i + 1 else clt g n i
def rowO (o : List Int) : XRow := .vec 5 true o.length 1 fun j => [X8 (o.getD j 0)]
def oOK (o : List Int) : Prop := ∀ x ∈ o, 0 ≤ x ∧ x < 128
def enI0 (q : Sq Int) : Inv where
  σ := IL
  S := fun x => ⟨[(0, rnX q), (4, .sl 0 1 0 (eo0 q.g x.i).length), (17, rnX q), (18, XI q.n), (19, XI x.i)], [(0, rowO (eo0 q.g x.i))], 1, false, []⟩
  inv := fun x => x.i ≤ q.n
  μ := fun x => q.n - x.i
structure OK2 (q : Sq Int) (h0 : Int) (x : OS) : Prop where
  n : 128 ≤ x.n ∧ x.n ≤ 1114112
  h : x.s.h = clt q.g x.n q.n
  h0 : 0 ≤ h0 ∧ h0 ≤ x.s.h
  d : 0 ≤ x.s.d ∧ x.s.d ≤ (q.n - x.f) * 2300000000
  b : 0 ≤ x.s.b ∧ x.s.b ≤ 400
  o : oOK x.s.o
  l : x.s.o.length ≤ 50000
  f : (q.n : Int) - x.s.h ≤ x.f ∧ x.f ≤ q.n
def enI2 (q : Sq Int) : Inv where
  σ := OS
  S := fun x => ⟨[(0, rnX q), (4, .sl 0 1 0 x.s.o.length), (7, XI x.s.h), (8, XI (eo0 q.g q.n).length), (9, X32 x.n), (10, XI x.s.d), (11, XI x.s.b)], [(0, rowO x.s.o)], 1, false, []⟩
  inv := fun x => OK2 q (eo0 q.g q.n).length x ∧ encG q.g q.n (eo0 q.g q.n).length x.f x.n x.s = encR q.g q.n
  μ := fun x => x.f
def enI4 (q : Sq Int) (y : OS) : Inv where
  σ := IL
  S := fun x => ⟨[(0, rnX q), (4, .sl 0 1 0 y.s.o.length), (7, XI y.s.h), (8, XI (eo0 q.g q.n).length), (9, X32 y.n), (10, XI y.s.d), (11, XI y.s.b), (12, X32 (mnr q.g y.n x.i)), (46, rnX q), (47, XI q.n), (48, XI x.i)], [(0, rowO y.s.o)], 1, false, []⟩
  inv := fun x => x.i ≤ q.n
  μ := fun x => q.n - x.i
/-- The rounds' states behind the least rune. -/
def fo1 (q : Sq Int) (y : OS) (i : Nat) : ES := fol q.g (eo0 q.g q.n).length (mnr q.g y.n q.n) { y.s with d := y.s.d + (mnr q.g y.n q.n - y.n) * (y.s.h + 1) } i
def enI6 (q : Sq Int) (y : OS) : Inv where
  σ := IL
  S := fun x => ⟨[(0, rnX q), (4, .sl 0 1 0 (fo1 q y x.i).o.length), (7, XI (fo1 q y x.i).h), (8, XI (eo0 q.g q.n).length), (9, X32 (mnr q.g y.n q.n)), (10, XI (fo1 q y x.i).d), (11, XI (fo1 q y x.i).b), (72, rnX q), (73, XI q.n), (74, XI x.i)], [(0, rowO (fo1 q y x.i).o)], 1, false, []⟩
  inv := fun x => x.i ≤ q.n
  μ := fun x => q.n - x.i
def enC (q : Sq Int) : Inv where
  σ := IL
  S := fun x => ⟨[(0, rnX q), (4, .sl 0 1 0 (eo1 q.g q.n).length), (7, XI (eo0 q.g q.n).length), (8, XI (eo0 q.g q.n).length)], [(0, rowO (eo1 q.g q.n))], 1, false, []⟩
  inv := fun x => True
  μ := fun x => 0
def enE (q : Sq Int) : Env := { cuts := [(12, enC q)], loops := [(0, enI0 q), (2, enI2 q)], loopsP := [(4, ⟨OS, enI4 q⟩), (6, ⟨OS, enI6 q⟩)], own := [(2, [(4, 5, 1)])] }
def encV (q : Sq Int) : Prop :=
  (∃ (x : (enI0 q).σ), x.i.le q.n ∧ true = true ∧ ((XV.fz q.n (1 : Nat) fun (i : Nat) => [X32 (q.g i)]) = XV.fz q.n (1 : Nat) fun (i : Nat) => [X32 (q.g i)]) ∧ XV.sl (0 : Nat) (1 : Nat) (0 : Nat) (0 : Nat) = XV.sl (0 : Nat) (1 : Nat) (0 : Nat) (eo0 q.g x.i).length ∧ ((XV.fz q.n (1 : Nat) fun (i : Nat) => [X32 (q.g i)]) = XV.fz q.n (1 : Nat) fun (i : Nat) => [X32 (q.g i)]) ∧ (↑q.n : Int) = (↑q.n : Int) ∧ (0 : Int) = (↑x.i : Int) ∧ (((5 : Nat) = (5 : TypeId) ∧ true = true ∧ (1 : Nat) = (1 : Nat)) ∧ (0 : Nat) = (eo0 q.g x.i).length ∧ ∀ (j : Nat), j < (0 : Nat) → [] = [X8 ((eo0 q.g x.i).getD j (0 : Int))]) ∧ True) ∧ ∀ (x : IL), x.i.le q.n → (decide ((↑x.i : Int) < (↑q.n : Int)) = true → (0 : Int) ≤ (↑x.i : Int) ∧ (↑x.i : Int) < (↑q.n : Int) ∧ (decide (q.g (↑x.i : Int).toNat < (128 : Int)) = true → (eo0 q.g x.i).length = (eo0 q.g x.i).length ∧ ((eo0 q.g x.i).length + (1 : Nat)) * (1 : Nat) ≤ (140737488355328 : Nat) ∧ (eo0 q.g x.i).length + (1 : Nat) ≤ (140737488355328 : Nat) ∧ in64 ((↑x.i : Int) + (1 : Int)) ∧ ∃ (x' : (enI0 q).σ), x'.i.le q.n ∧ q.n - x'.i < q.n - x.i ∧ true = true ∧ ((XV.fz q.n (1 : Nat) fun (i : Nat) => [X32 (q.g i)]) = XV.fz q.n (1 : Nat) fun (i : Nat) => [X32 (q.g i)]) ∧ XV.sl (0 : Nat) (1 : Nat) (0 : Nat) ((eo0 q.g x.i).length + (1 : Nat)) = XV.sl (0 : Nat) (1 : Nat) (0 : Nat) (eo0 q.g x'.i).length ∧ ((XV.fz q.n (1 : Nat) fun (i : Nat) => [X32 (q.g i)]) = XV.fz q.n (1 : Nat) fun (i : Nat) => [X32 (q.g i)]) ∧ (↑q.n : Int) = (↑q.n : Int) ∧ (↑x.i : Int) + (1 : Int) = (↑x'.i : Int) ∧ (((5 : TypeId) = (5 : TypeId) ∧ true = true ∧ (1 : Nat) = (1 : Nat)) ∧ (eo0 q.g x.i).length + (1 : Nat) = (eo0 q.g x'.i).length ∧ ∀ (j : Nat), j < (eo0 q.g x.i).length + (1 : Nat) → [Bool.rec (X8 (IntKind.u8.wrap (q.g (↑x.i : Int).toNat))) (X8 ((eo0 q.g x.i).getD j (0 : Int))) (j.blt (eo0 q.g x.i).length)] = [X8 ((eo0 q.g x'.i).getD j (0 : Int))]) ∧ True) ∧ (decide (q.g (↑x.i : Int).toNat < (128 : Int)) = false → in64 ((↑x.i : Int) + (1 : Int)) ∧ ∃ (x' : (enI0 q).σ), x'.i.le q.n ∧ q.n - x'.i < q.n - x.i ∧ true = true ∧ ((XV.fz q.n (1 : Nat) fun (i : Nat) => [X32 (q.g i)]) = XV.fz q.n (1 : Nat) fun (i : Nat) => [X32 (q.g i)]) ∧ XV.sl (0 : Nat) (1 : Nat) (0 : Nat) (eo0 q.g x.i).length = XV.sl (0 : Nat) (1 : Nat) (0 : Nat) (eo0 q.g x'.i).length ∧ ((XV.fz q.n (1 : Nat) fun (i : Nat) => [X32 (q.g i)]) = XV.fz q.n (1 : Nat) fun (i : Nat) => [X32 (q.g i)]) ∧ (↑q.n : Int) = (↑q.n : Int) ∧ (↑x.i : Int) + (1 : Int) = (↑x'.i : Int) ∧ (((5 : TypeId) = (5 : TypeId) ∧ true = true ∧ (1 : Nat) = (1 : Nat)) ∧ (eo0 q.g x.i).length = (eo0 q.g x'.i).length ∧ ∀ (j : Nat), j < (eo0 q.g x.i).length → [X8 ((eo0 q.g x.i).getD j (0 : Int))] = [X8 ((eo0 q.g x'.i).getD j (0 : Int))]) ∧ True)) ∧ (decide ((↑x.i : Int) < (↑q.n : Int)) = false → ((decide ((↑(eo0 q.g x.i).length : Int) > (0 : Int)) = true → (eo0 q.g x.i).length = (eo0 q.g x.i).length ∧ ((eo0 q.g x.i).length + (1 : Nat)) * (1 : Nat) ≤ (140737488355328 : Nat) ∧ (eo0 q.g x.i).length + (1 : Nat) ≤ (140737488355328 : Nat) ∧ ∃ (x_1 : (enC q).σ), True ∧ true = true ∧ ((XV.fz q.n (1 : Nat) fun (i : Nat) => [X32 (q.g i)]) = XV.fz q.n (1 : Nat) fun (i : Nat) => [X32 (q.g i)]) ∧ XV.sl (0 : Nat) (1 : Nat) (0 : Nat) ((eo0 q.g x.i).length + (1 : Nat)) = XV.sl (0 : Nat) (1 : Nat) (0 : Nat) (eo1 q.g q.n).length ∧ (↑(eo0 q.g x.i).length : Int) = (↑(eo0 q.g q.n).length : Int) ∧ (↑(eo0 q.g x.i).length : Int) = (↑(eo0 q.g q.n).length : Int) ∧ (((5 : TypeId) = (5 : TypeId) ∧ true = true ∧ (1 : Nat) = (1 : Nat)) ∧ (eo0 q.g x.i).length + (1 : Nat) = (eo1 q.g q.n).length ∧ ∀ (j : Nat), j < (eo0 q.g x.i).length + (1 : Nat) → [Bool.rec (X8 45) (X8 ((eo0 q.g x.i).getD j (0 : Int))) (j.blt (eo0 q.g x.i).length)] = [X8 ((eo1 q.g q.n).getD j (0 : Int))]) ∧ True) ∧ (decide ((↑(eo0 q.g x.i).length : Int) > (0 : Int)) = false → ∃ (x_1 : (enC q).σ), True ∧ true = true ∧ ((XV.fz q.n (1 : Nat) fun (i : Nat) => [X32 (q.g i)]) = XV.fz q.n (1 : Nat) fun (i : Nat) => [X32 (q.g i)]) ∧ XV.sl (0 : Nat) (1 : Nat) (0 : Nat) (eo0 q.g x.i).length = XV.sl (0 : Nat) (1 : Nat) (0 : Nat) (eo1 q.g q.n).length ∧ (↑(eo0 q.g x.i).length : Int) = (↑(eo0 q.g q.n).length : Int) ∧ (↑(eo0 q.g x.i).length : Int) = (↑(eo0 q.g q.n).length : Int) ∧ (((5 : TypeId) = (5 : TypeId) ∧ true = true ∧ (1 : Nat) = (1 : Nat)) ∧ (eo0 q.g x.i).length = (eo1 q.g q.n).length ∧ ∀ (j : Nat), j < (eo0 q.g x.i).length → [X8 ((eo0 q.g x.i).getD j (0 : Int))] = [X8 ((eo1 q.g q.n).getD j (0 : Int))]) ∧ True)) ∧ ∀ (x : IL), True → (∃ (x : (enI2 q).σ), (OK2 q (↑(eo0 q.g q.n).length : Int) x ∧ encG q.g q.n (↑(eo0 q.g q.n).length : Int) x.f x.n x.s = encR q.g q.n) ∧ true = true ∧ ((XV.fz q.n (1 : Nat) fun (i : Nat) => [X32 (q.g i)]) = XV.fz q.n (1 : Nat) fun (i : Nat) => [X32 (q.g i)]) ∧ XV.sl (0 : Nat) (1 : Nat) (0 : Nat) (eo1 q.g q.n).length = XV.sl (0 : Nat) (1 : Nat) (0 : Nat) x.s.o.length ∧ (↑(eo0 q.g q.n).length : Int) = x.s.h ∧ (↑(eo0 q.g q.n).length : Int) = (↑(eo0 q.g q.n).length : Int) ∧ (128 : Int) = x.n ∧ (0 : Int) = x.s.d ∧ (72 : Int) = x.s.b ∧ (((5 : TypeId) = (5 : TypeId) ∧ true = true ∧ (1 : Nat) = (1 : Nat)) ∧ (eo1 q.g q.n).length = x.s.o.length ∧ ∀ (j : Nat), j < (eo1 q.g q.n).length → [X8 ((eo1 q.g q.n).getD j (0 : Int))] = [X8 (x.s.o.getD j (0 : Int))]) ∧ True) ∧ ∀ (x : OS), OK2 q (↑(eo0 q.g q.n).length : Int) x ∧ encG q.g q.n (↑(eo0 q.g q.n).length : Int) x.f x.n x.s = encR q.g q.n → (decide (x.s.h < (↑q.n : Int)) = true → (decide ((↑x.s.o.length : Int) > (63 : Int)) = true → { data := #[] : ByteArray } = txtO (encR q.g q.n).fst ∧ (2 : Int) = (encR q.g q.n).snd ∧ True) ∧ (decide ((↑x.s.o.length : Int) > (63 : Int)) = false → ∃ (p : { α := OS, J := enI4 q : InvP }.α), (∃ (x_1 : ({ α := OS, J := enI4 q : InvP }.J p).σ), x_1.i.le q.n ∧ true = true ∧ ((XV.fz q.n (1 : Nat) fun (i : Nat) => [X32 (q.g i)]) = XV.fz q.n (1 : Nat) fun (i : Nat) => [X32 (q.g i)]) ∧ XV.sl (0 : Nat) (1 : Nat) (0 : Nat) x.s.o.length = XV.sl (0 : Nat) (1 : Nat) (0 : Nat) p.s.o.length ∧ x.s.h = p.s.h ∧ (↑(eo0 q.g q.n).length : Int) = (↑(eo0 q.g q.n).length : Int) ∧ x.n = p.n ∧ x.s.d = p.s.d ∧ x.s.b = p.s.b ∧ (1114112 : Int) = mnr q.g p.n x_1.i ∧ ((XV.fz q.n (1 : Nat) fun (i : Nat) => [X32 (q.g i)]) = XV.fz q.n (1 : Nat) fun (i : Nat) => [X32 (q.g i)]) ∧ (↑q.n : Int) = (↑q.n : Int) ∧ (0 : Int) = (↑x_1.i : Int) ∧ (((5 : TypeId) = (5 : TypeId) ∧ true = true ∧ (1 : Nat) = (1 : Nat)) ∧ x.s.o.length = p.s.o.length ∧ ∀ (j : Nat), j < x.s.o.length → [X8 (x.s.o.getD j (0 : Int))] = [X8 (p.s.o.getD j (0 : Int))]) ∧ True) ∧ ∀ (x_1 : IL), x_1.i.le q.n → (decide ((↑x_1.i : Int) < (↑q.n : Int)) = true → (0 : Int) ≤ (↑x_1.i : Int) ∧ (↑x_1.i : Int) < (↑q.n : Int) ∧ ((decide (q.g (↑x_1.i : Int).toNat ≥ p.n) && decide (q.g (↑x_1.i : Int).toNat < mnr q.g p.n x_1.i)) = true → in64 ((↑x_1.i : Int) + (1 : Int)) ∧ ∃ (x' : ({ α := OS, J := enI4 q : InvP }.J p).σ), x'.i.le q.n ∧ q.n - x'.i < q.n - x_1.i ∧ true = true ∧ ((XV.fz q.n (1 : Nat) fun (i : Nat) => [X32 (q.g i)]) = XV.fz q.n (1 : Nat) fun (i : Nat) => [X32 (q.g i)]) ∧ XV.sl (0 : Nat) (1 : Nat) (0 : Nat) p.s.o.length = XV.sl (0 : Nat) (1 : Nat) (0 : Nat) p.s.o.length ∧ p.s.h = p.s.h ∧ (↑(eo0 q.g q.n).length : Int) = (↑(eo0 q.g q.n).length : Int) ∧ p.n = p.n ∧ p.s.d = p.s.d ∧ p.s.b = p.s.b ∧ q.g (↑x_1.i : Int).toNat = mnr q.g p.n x'.i ∧ ((XV.fz q.n (1 : Nat) fun (i : Nat) => [X32 (q.g i)]) = XV.fz q.n (1 : Nat) fun (i : Nat) => [X32 (q.g i)]) ∧ (↑q.n : Int) = (↑q.n : Int) ∧ (↑x_1.i : Int) + (1 : Int) = (↑x'.i : Int) ∧ (((5 : TypeId) = (5 : TypeId) ∧ true = true ∧ (1 : Nat) = (1 : Nat)) ∧ p.s.o.length = p.s.o.length ∧ ∀ (j : Nat), j < p.s.o.length → [X8 (p.s.o.getD j (0 : Int))] = [X8 (p.s.o.getD j (0 : Int))]) ∧ True) ∧ ((decide (q.g (↑x_1.i : Int).toNat ≥ p.n) && decide (q.g (↑x_1.i : Int).toNat < mnr q.g p.n x_1.i)) = false → in64 ((↑x_1.i : Int) + (1 : Int)) ∧ ∃ (x' : ({ α := OS, J := enI4 q : InvP }.J p).σ), x'.i.le q.n ∧ q.n - x'.i < q.n - x_1.i ∧ true = true ∧ ((XV.fz q.n (1 : Nat) fun (i : Nat) => [X32 (q.g i)]) = XV.fz q.n (1 : Nat) fun (i : Nat) => [X32 (q.g i)]) ∧ XV.sl (0 : Nat) (1 : Nat) (0 : Nat) p.s.o.length = XV.sl (0 : Nat) (1 : Nat) (0 : Nat) p.s.o.length ∧ p.s.h = p.s.h ∧ (↑(eo0 q.g q.n).length : Int) = (↑(eo0 q.g q.n).length : Int) ∧ p.n = p.n ∧ p.s.d = p.s.d ∧ p.s.b = p.s.b ∧ mnr q.g p.n x_1.i = mnr q.g p.n x'.i ∧ ((XV.fz q.n (1 : Nat) fun (i : Nat) => [X32 (q.g i)]) = XV.fz q.n (1 : Nat) fun (i : Nat) => [X32 (q.g i)]) ∧ (↑q.n : Int) = (↑q.n : Int) ∧ (↑x_1.i : Int) + (1 : Int) = (↑x'.i : Int) ∧ (((5 : TypeId) = (5 : TypeId) ∧ true = true ∧ (1 : Nat) = (1 : Nat)) ∧ p.s.o.length = p.s.o.length ∧ ∀ (j : Nat), j < p.s.o.length → [X8 (p.s.o.getD j (0 : Int))] = [X8 (p.s.o.getD j (0 : Int))]) ∧ True)) ∧ (decide ((↑x_1.i : Int) < (↑q.n : Int)) = false → in64 (IntKind.i32.wrap (mnr q.g p.n x_1.i - p.n)) ∧ in64 (p.s.h + (1 : Int)) ∧ in64 (IntKind.i32.wrap (mnr q.g p.n x_1.i - p.n) * (p.s.h + (1 : Int))) ∧ in64 (p.s.d + IntKind.i32.wrap (mnr q.g p.n x_1.i - p.n) * (p.s.h + (1 : Int))) ∧ ∃ (p_1 : { α := OS, J := enI6 q : InvP }.α), (∃ (x : ({ α := OS, J := enI6 q : InvP }.J p_1).σ), x.i.le q.n ∧ true = true ∧ ((XV.fz q.n (1 : Nat) fun (i : Nat) => [X32 (q.g i)]) = XV.fz q.n (1 : Nat) fun (i : Nat) => [X32 (q.g i)]) ∧ XV.sl (0 : Nat) (1 : Nat) (0 : Nat) p.s.o.length = XV.sl (0 : Nat) (1 : Nat) (0 : Nat) (fo1 q p_1 x.i).o.length ∧ p.s.h = (fo1 q p_1 x.i).h ∧ (↑(eo0 q.g q.n).length : Int) = (↑(eo0 q.g q.n).length : Int) ∧ mnr q.g p.n x_1.i = mnr q.g p_1.n q.n ∧ p.s.d + IntKind.i32.wrap (mnr q.g p.n x_1.i - p.n) * (p.s.h + (1 : Int)) = (fo1 q p_1 x.i).d ∧ p.s.b = (fo1 q p_1 x.i).b ∧ ((XV.fz q.n (1 : Nat) fun (i : Nat) => [X32 (q.g i)]) = XV.fz q.n (1 : Nat) fun (i : Nat) => [X32 (q.g i)]) ∧ (↑q.n : Int) = (↑q.n : Int) ∧ (0 : Int) = (↑x.i : Int) ∧ (((5 : TypeId) = (5 : TypeId) ∧ true = true ∧ (1 : Nat) = (1 : Nat)) ∧ p.s.o.length = (fo1 q p_1 x.i).o.length ∧ ∀ (j : Nat), j < p.s.o.length → [X8 (p.s.o.getD j (0 : Int))] = [X8 ((fo1 q p_1 x.i).o.getD j (0 : Int))]) ∧ True) ∧ ∀ (x_2 : IL), x_2.i.le q.n → (decide ((↑x_2.i : Int) < (↑q.n : Int)) = true → (0 : Int) ≤ (↑x_2.i : Int) ∧ (↑x_2.i : Int) < (↑q.n : Int) ∧ (decide (q.g (↑x_2.i : Int).toNat < mnr q.g p_1.n q.n) = true → in64 ((fo1 q p_1 x_2.i).d + (1 : Int)) ∧ ((q.g (↑x_2.i : Int).toNat != mnr q.g p_1.n q.n) = true → in64 ((↑x_2.i : Int) + (1 : Int)) ∧ ∃ (x' : ({ α := OS, J := enI6 q : InvP }.J p_1).σ), x'.i.le q.n ∧ q.n - x'.i < q.n - x_2.i ∧ true = true ∧ ((XV.fz q.n (1 : Nat) fun (i : Nat) => [X32 (q.g i)]) = XV.fz q.n (1 : Nat) fun (i : Nat) => [X32 (q.g i)]) ∧ XV.sl (0 : Nat) (1 : Nat) (0 : Nat) (fo1 q p_1 x_2.i).o.length = XV.sl (0 : Nat) (1 : Nat) (0 : Nat) (fo1 q p_1 x'.i).o.length ∧ (fo1 q p_1 x_2.i).h = (fo1 q p_1 x'.i).h ∧ (↑(eo0 q.g q.n).length : Int) = (↑(eo0 q.g q.n).length : Int) ∧ mnr q.g p_1.n q.n = mnr q.g p_1.n q.n ∧ (fo1 q p_1 x_2.i).d + (1 : Int) = (fo1 q p_1 x'.i).d ∧ (fo1 q p_1 x_2.i).b = (fo1 q p_1 x'.i).b ∧ ((XV.fz q.n (1 : Nat) fun (i : Nat) => [X32 (q.g i)]) = XV.fz q.n (1 : Nat) fun (i : Nat) => [X32 (q.g i)]) ∧ (↑q.n : Int) = (↑q.n : Int) ∧ (↑x_2.i : Int) + (1 : Int) = (↑x'.i : Int) ∧ (((5 : TypeId) = (5 : TypeId) ∧ true = true ∧ (1 : Nat) = (1 : Nat)) ∧ (fo1 q p_1 x_2.i).o.length = (fo1 q p_1 x'.i).o.length ∧ ∀ (j : Nat), j < (fo1 q p_1 x_2.i).o.length → [X8 ((fo1 q p_1 x_2.i).o.getD j (0 : Int))] = [X8 ((fo1 q p_1 x'.i).o.getD j (0 : Int))]) ∧ True) ∧ ((q.g (↑x_2.i : Int).toNat != mnr q.g p_1.n q.n) = false → (fo1 q p_1 x_2.i).o.length = (fo1 q p_1 x_2.i).o.length ∧ (∀ (j : Nat), j < (fo1 q p_1 x_2.i).o.length → [X8 ((fo1 q p_1 x_2.i).o.getD j (0 : Int))] = [X8 (Option.rec (0 : Int) (fun (val : Int) => val) (fo1 q p_1 x_2.i).o[j]?)]) ∧ (0 : Int) ≤ (fo1 q p_1 x_2.i).d + (1 : Int) ∧ (fo1 q p_1 x_2.i).d + (1 : Int) < (1000000000000000000 : Int) ∧ (-1000 : Int) ≤ (fo1 q p_1 x_2.i).b ∧ (fo1 q p_1 x_2.i).b ≤ (1000 : Int) ∧ (fo1 q p_1 x_2.i).o.length ≤ (1000000 : Nat) ∧ in64 ((fo1 q p_1 x_2.i).h + (1 : Int)) ∧ (0 : Int) ≤ (fo1 q p_1 x_2.i).d + (1 : Int) ∧ (fo1 q p_1 x_2.i).d + (1 : Int) ≤ (35000000000000000 : Int) ∧ (1 : Int) ≤ (fo1 q p_1 x_2.i).h + (1 : Int) ∧ in64 ((fo1 q p_1 x_2.i).h + (1 : Int)) ∧ in64 ((↑x_2.i : Int) + (1 : Int)) ∧ ∃ (x' : ({ α := OS, J := enI6 q : InvP }.J p_1).σ), x'.i.le q.n ∧ q.n - x'.i < q.n - x_2.i ∧ true = true ∧ ((XV.fz q.n (1 : Nat) fun (i : Nat) => [X32 (q.g i)]) = XV.fz q.n (1 : Nat) fun (i : Nat) => [X32 (q.g i)]) ∧ XV.sl (0 : Nat) (1 : Nat) (0 : Nat) ((fo1 q p_1 x_2.i).o.length + (num ((fo1 q p_1 x_2.i).d + (1 : Int)) (fo1 q p_1 x_2.i).b).length) = XV.sl (0 : Nat) (1 : Nat) (0 : Nat) (fo1 q p_1 x'.i).o.length ∧ (fo1 q p_1 x_2.i).h + (1 : Int) = (fo1 q p_1 x'.i).h ∧ (↑(eo0 q.g q.n).length : Int) = (↑(eo0 q.g q.n).length : Int) ∧ mnr q.g p_1.n q.n = mnr q.g p_1.n q.n ∧ (0 : Int) = (fo1 q p_1 x'.i).d ∧ adp ((fo1 q p_1 x_2.i).d + (1 : Int)) ((fo1 q p_1 x_2.i).h + (1 : Int)) ((fo1 q p_1 x_2.i).h == (↑(eo0 q.g q.n).length : Int)) = (fo1 q p_1 x'.i).b ∧ ((XV.fz q.n (1 : Nat) fun (i : Nat) => [X32 (q.g i)]) = XV.fz q.n (1 : Nat) fun (i : Nat) => [X32 (q.g i)]) ∧ (↑q.n : Int) = (↑q.n : Int) ∧ (↑x_2.i : Int) + (1 : Int) = (↑x'.i : Int) ∧ (((5 : TypeId) = (5 : TypeId) ∧ true = true ∧ (1 : Nat) = (1 : Nat)) ∧ (fo1 q p_1 x_2.i).o.length + (num ((fo1 q p_1 x_2.i).d + (1 : Int)) (fo1 q p_1 x_2.i).b).length = (fo1 q p_1 x'.i).o.length ∧ ∀ (j : Nat), j < (fo1 q p_1 x_2.i).o.length + (num ((fo1 q p_1 x_2.i).d + (1 : Int)) (fo1 q p_1 x_2.i).b).length → [X8 (nmC (fo1 q p_1 x_2.i).o.length (fun (j : Nat) => Option.rec (0 : Int) (fun (val : Int) => val) (fo1 q p_1 x_2.i).o[j]?) (num ((fo1 q p_1 x_2.i).d + (1 : Int)) (fo1 q p_1 x_2.i).b) j)] = [X8 ((fo1 q p_1 x'.i).o.getD j (0 : Int))]) ∧ True)) ∧ (decide (q.g (↑x_2.i : Int).toNat < mnr q.g p_1.n q.n) = false → ((q.g (↑x_2.i : Int).toNat != mnr q.g p_1.n q.n) = true → in64 ((↑x_2.i : Int) + (1 : Int)) ∧ ∃ (x' : ({ α := OS, J := enI6 q : InvP }.J p_1).σ), x'.i.le q.n ∧ q.n - x'.i < q.n - x_2.i ∧ true = true ∧ ((XV.fz q.n (1 : Nat) fun (i : Nat) => [X32 (q.g i)]) = XV.fz q.n (1 : Nat) fun (i : Nat) => [X32 (q.g i)]) ∧ XV.sl (0 : Nat) (1 : Nat) (0 : Nat) (fo1 q p_1 x_2.i).o.length = XV.sl (0 : Nat) (1 : Nat) (0 : Nat) (fo1 q p_1 x'.i).o.length ∧ (fo1 q p_1 x_2.i).h = (fo1 q p_1 x'.i).h ∧ (↑(eo0 q.g q.n).length : Int) = (↑(eo0 q.g q.n).length : Int) ∧ mnr q.g p_1.n q.n = mnr q.g p_1.n q.n ∧ (fo1 q p_1 x_2.i).d = (fo1 q p_1 x'.i).d ∧ (fo1 q p_1 x_2.i).b = (fo1 q p_1 x'.i).b ∧ ((XV.fz q.n (1 : Nat) fun (i : Nat) => [X32 (q.g i)]) = XV.fz q.n (1 : Nat) fun (i : Nat) => [X32 (q.g i)]) ∧ (↑q.n : Int) = (↑q.n : Int) ∧ (↑x_2.i : Int) + (1 : Int) = (↑x'.i : Int) ∧ (((5 : TypeId) = (5 : TypeId) ∧ true = true ∧ (1 : Nat) = (1 : Nat)) ∧ (fo1 q p_1 x_2.i).o.length = (fo1 q p_1 x'.i).o.length ∧ ∀ (j : Nat), j < (fo1 q p_1 x_2.i).o.length → [X8 ((fo1 q p_1 x_2.i).o.getD j (0 : Int))] = [X8 ((fo1 q p_1 x'.i).o.getD j (0 : Int))]) ∧ True) ∧ ((q.g (↑x_2.i : Int).toNat != mnr q.g p_1.n q.n) = false → (fo1 q p_1 x_2.i).o.length = (fo1 q p_1 x_2.i).o.length ∧ (∀ (j : Nat), j < (fo1 q p_1 x_2.i).o.length → [X8 ((fo1 q p_1 x_2.i).o.getD j (0 : Int))] = [X8 (Option.rec (0 : Int) (fun (val : Int) => val) (fo1 q p_1 x_2.i).o[j]?)]) ∧ (0 : Int) ≤ (fo1 q p_1 x_2.i).d ∧ (fo1 q p_1 x_2.i).d < (1000000000000000000 : Int) ∧ (-1000 : Int) ≤ (fo1 q p_1 x_2.i).b ∧ (fo1 q p_1 x_2.i).b ≤ (1000 : Int) ∧ (fo1 q p_1 x_2.i).o.length ≤ (1000000 : Nat) ∧ in64 ((fo1 q p_1 x_2.i).h + (1 : Int)) ∧ (0 : Int) ≤ (fo1 q p_1 x_2.i).d ∧ (fo1 q p_1 x_2.i).d ≤ (35000000000000000 : Int) ∧ (1 : Int) ≤ (fo1 q p_1 x_2.i).h + (1 : Int) ∧ in64 ((fo1 q p_1 x_2.i).h + (1 : Int)) ∧ in64 ((↑x_2.i : Int) + (1 : Int)) ∧ ∃ (x' : ({ α := OS, J := enI6 q : InvP }.J p_1).σ), x'.i.le q.n ∧ q.n - x'.i < q.n - x_2.i ∧ true = true ∧ ((XV.fz q.n (1 : Nat) fun (i : Nat) => [X32 (q.g i)]) = XV.fz q.n (1 : Nat) fun (i : Nat) => [X32 (q.g i)]) ∧ XV.sl (0 : Nat) (1 : Nat) (0 : Nat) ((fo1 q p_1 x_2.i).o.length + (num (fo1 q p_1 x_2.i).d (fo1 q p_1 x_2.i).b).length) = XV.sl (0 : Nat) (1 : Nat) (0 : Nat) (fo1 q p_1 x'.i).o.length ∧ (fo1 q p_1 x_2.i).h + (1 : Int) = (fo1 q p_1 x'.i).h ∧ (↑(eo0 q.g q.n).length : Int) = (↑(eo0 q.g q.n).length : Int) ∧ mnr q.g p_1.n q.n = mnr q.g p_1.n q.n ∧ (0 : Int) = (fo1 q p_1 x'.i).d ∧ adp (fo1 q p_1 x_2.i).d ((fo1 q p_1 x_2.i).h + (1 : Int)) ((fo1 q p_1 x_2.i).h == (↑(eo0 q.g q.n).length : Int)) = (fo1 q p_1 x'.i).b ∧ ((XV.fz q.n (1 : Nat) fun (i : Nat) => [X32 (q.g i)]) = XV.fz q.n (1 : Nat) fun (i : Nat) => [X32 (q.g i)]) ∧ (↑q.n : Int) = (↑q.n : Int) ∧ (↑x_2.i : Int) + (1 : Int) = (↑x'.i : Int) ∧ (((5 : TypeId) = (5 : TypeId) ∧ true = true ∧ (1 : Nat) = (1 : Nat)) ∧ (fo1 q p_1 x_2.i).o.length + (num (fo1 q p_1 x_2.i).d (fo1 q p_1 x_2.i).b).length = (fo1 q p_1 x'.i).o.length ∧ ∀ (j : Nat), j < (fo1 q p_1 x_2.i).o.length + (num (fo1 q p_1 x_2.i).d (fo1 q p_1 x_2.i).b).length → [X8 (nmC (fo1 q p_1 x_2.i).o.length (fun (j : Nat) => Option.rec (0 : Int) (fun (val : Int) => val) (fo1 q p_1 x_2.i).o[j]?) (num (fo1 q p_1 x_2.i).d (fo1 q p_1 x_2.i).b) j)] = [X8 ((fo1 q p_1 x'.i).o.getD j (0 : Int))]) ∧ True))) ∧ (decide ((↑x_2.i : Int) < (↑q.n : Int)) = false → in64 ((fo1 q p_1 x_2.i).d + (1 : Int)) ∧ ∃ (x' : (enI2 q).σ), (OK2 q (↑(eo0 q.g q.n).length : Int) x' ∧ encG q.g q.n (↑(eo0 q.g q.n).length : Int) x'.f x'.n x'.s = encR q.g q.n) ∧ x'.f < x.f ∧ true = true ∧ ((XV.fz q.n (1 : Nat) fun (i : Nat) => [X32 (q.g i)]) = XV.fz q.n (1 : Nat) fun (i : Nat) => [X32 (q.g i)]) ∧ XV.sl (0 : Nat) (1 : Nat) (0 : Nat) (fo1 q p_1 x_2.i).o.length = XV.sl (0 : Nat) (1 : Nat) (0 : Nat) x'.s.o.length ∧ (fo1 q p_1 x_2.i).h = x'.s.h ∧ (↑(eo0 q.g q.n).length : Int) = (↑(eo0 q.g q.n).length : Int) ∧ IntKind.i32.wrap (mnr q.g p_1.n q.n + (1 : Int)) = x'.n ∧ (fo1 q p_1 x_2.i).d + (1 : Int) = x'.s.d ∧ (fo1 q p_1 x_2.i).b = x'.s.b ∧ (((5 : TypeId) = (5 : TypeId) ∧ true = true ∧ (1 : Nat) = (1 : Nat)) ∧ (fo1 q p_1 x_2.i).o.length = x'.s.o.length ∧ ∀ (j : Nat), j < (fo1 q p_1 x_2.i).o.length → [X8 ((fo1 q p_1 x_2.i).o.getD j (0 : Int))] = [X8 (x'.s.o.getD j (0 : Int))]) ∧ True)))) ∧ (decide (x.s.h < (↑q.n : Int)) = false → (decide ((↑x.s.o.length : Int) > (63 : Int)) = true → { data := #[] : ByteArray } = txtO (encR q.g q.n).fst ∧ (2 : Int) = (encR q.g q.n).snd ∧ True) ∧ (decide ((↑x.s.o.length : Int) > (63 : Int)) = false → (0 : Nat) + x.s.o.length ≤ x.s.o.length ∧ (∀ (j : Nat), j < x.s.o.length → [X8 (x.s.o.getD ((0 : Nat) + j) (0 : Int))] = [X8 (↑{ toBitVec := BitVec.ofNat (8 : Nat) (x.s.o.getD ((0 : Nat) + j) (0 : Int)).toNat : UInt8 }.toNat : Int)]) ∧ (txtOf x.s.o.length fun (j : Nat) => { toBitVec := BitVec.ofNat (8 : Nat) (x.s.o.getD ((0 : Nat) + j) (0 : Int)).toNat : UInt8 }) = txtO (encR q.g q.n).fst ∧ (0 : Int) = (encR q.g q.n).snd ∧ True)))
theorem encV_eq (q : Sq Int) : encV q = (funC cxe Tryd.f27 (mkSc (enE q) (bodyOf Tryd.f27)) [rnX q] (.tup [XT (txtO (encR q.g q.n).1), XI (encR q.g q.n).2])) := by kernel_rfl
theorem num_ok : ITok Tryd.prog 37 (itS 5 1 numC) := sv_ok cxn_ok Tryd.func37 rfl (by decide) fun n f rest cs m g hC hc => by
  unfold numC at hC
  split at hC
  · rename_i q b
    simp only [Option.some.injEq, Prod.mk.injEq] at hC
    obtain ⟨rfl, rfl, rfl⟩ := hC
    exact ⟨by kernel_rfl, rfl, fun j => [X8 (int8 (xget (f j) 0))], hc _ (by simp), exvS (numV_eq n (fun j => int8 (xget (f j) 0)) q b) (num_v n _ q b (hc _ (by simp)) (hc _ (by simp)) (hc _ (by simp)) (hc _ (by simp)) (hc _ (by simp)))⟩
  · cases hC
theorem cxe_ok : cxe.ok Tryd.prog := (cx0_ok.addL num_ok).addC adp_ok
theorem w32 {n : Int} (h0 : -2147483648 ≤ n) (h1 : n ≤ 2147483647) : IntKind.i32.wrap n = n := by
  simp [IntKind.wrap, IntKind.bits, IntKind.signed]; omega
theorem dgt_rng (d : Int) (h0 : 0 ≤ d) (h1 : d < 36) : 48 ≤ dgt d ∧ dgt d < 128 := by
  unfold dgt
  split <;> omega
theorem nmG_rng (b : Int) : ∀ (f : Nat) (q k : Int), 0 ≤ q → ∀ x ∈ nmG b f q k, 48 ≤ x ∧ x < 128
  | 0, q, k, _, x, hx => by simp [nmG] at hx
  | f + 1, q, k, h0, x, hx => by
    have ht := thr_rng k b
    by_cases h : q < thr k b
    · rw [nmG, if_pos h] at hx
      obtain rfl := List.mem_singleton.1 hx
      exact dgt_rng q h0 (by omega)
    · rw [nmG_no h] at hx
      rcases List.mem_cons.1 hx with rfl | hx
      · have r1 : 0 ≤ (q - thr k b) % (36 - thr k b) := Int.emod_nonneg _ (by omega)
        have r2 : (q - thr k b) % (36 - thr k b) < 36 - thr k b := Int.emod_lt_of_pos _ (by omega)
        exact dgt_rng _ (by omega) (by omega)
      · exact nmG_rng b f _ _ (Int.ediv_nonneg (by omega) (by omega)) x hx
theorem num_rng (q b : Int) (h0 : 0 ≤ q) : ∀ x ∈ num q b, 48 ≤ x ∧ x < 128 := nmG_rng b 19 q 36 h0
theorem mnr_prop (g : Nat → Int) (n : Int) (hn : n ≤ 1114112) : ∀ i, n ≤ mnr g n i ∧ mnr g n i ≤ 1114112 ∧ (∀ j, j < i → g j < n ∨ mnr g n i ≤ g j) ∧ (mnr g n i = 1114112 ∨ ∃ j, j < i ∧ g j = mnr g n i)
  | 0 => ⟨hn, Int.le_refl _, fun j hj => by omega, .inl rfl⟩
  | i + 1 => by
    obtain ⟨h1, h2, h3, h4⟩ := mnr_prop g n hn i
    rw [mnr]
    split
    · rename_i h
      refine ⟨h.1, by omega, fun j hj => ?_, .inr ⟨i, by omega, rfl⟩⟩
      by_cases e : j = i
      · subst e; right; omega
      · rcases h3 j (by omega) with k | k
        · exact .inl k
        · right; omega
    · rename_i h
      refine ⟨h1, h2, fun j hj => ?_, ?_⟩
      · by_cases e : j = i
        · subst e
          by_cases k : g j < n
          · exact .inl k
          · right; omega
        · exact h3 j (by omega)
      · rcases h4 with k | ⟨j, k1, k2⟩
        · exact .inl k
        · exact .inr ⟨j, by omega, k2⟩
/-- How many runes are m. -/
def ceq (g : Nat → Int) (m : Int) : Nat → Int
  | 0 => 0
  | i + 1 => if g i = m then ceq g m i + 1 else ceq g m i
theorem ceq_rng (g : Nat → Int) (m : Int) : ∀ i : Nat, 0 ≤ ceq g m i ∧ ceq g m i ≤ i
  | 0 => ⟨Int.le_refl _, Int.le_refl _⟩
  | i + 1 => by
    have := ceq_rng g m i
    rw [ceq]
    split <;> omega
theorem ceq_pos (g : Nat → Int) (m : Int) : ∀ i j : Nat, j < i → g j = m → 1 ≤ ceq g m i
  | 0, j, hj, _ => by omega
  | i + 1, j, hj, h => by
    have := ceq_rng g m i
    rw [ceq]
    split
    · omega
    · rename_i hne
      refine ceq_pos g m i j ?_ h
      by_cases e : j = i
      · subst e; exact absurd h hne
      · omega
theorem clt_rng (g : Nat → Int) (n : Int) : ∀ i : Nat, 0 ≤ clt g n i ∧ clt g n i ≤ i
  | 0 => ⟨Int.le_refl _, Int.le_refl _⟩
  | i + 1 => by
    have := clt_rng g n i
    rw [clt]
    split <;> omega
theorem clt_ex (g : Nat → Int) (n : Int) : ∀ i : Nat, clt g n i < i → ∃ j, j < i ∧ n ≤ g j
  | 0, h => by simp [clt] at h
  | i + 1, h => by
    rw [clt] at h
    split at h
    · obtain ⟨j, h1, h2⟩ := clt_ex g n i (by omega)
      exact ⟨j, by omega, h2⟩
    · exact ⟨i, by omega, by omega⟩
theorem clt_round (g : Nat → Int) (n m : Int) (hm : n ≤ m) : ∀ i : Nat, (∀ j, j < i → g j < n ∨ m ≤ g j) → clt g (m + 1) i = clt g n i + ceq g m i
  | 0, _ => rfl
  | i + 1, h => by
    have ih := clt_round g n m hm i fun j hj => h j (by omega)
    have hi := h i (by omega)
    rw [clt, clt, ceq, ih]
    split <;> split <;> split <;> omega
theorem eo0_len (g : Nat → Int) : ∀ i : Nat, ((eo0 g i).length : Int) = clt g 128 i
  | 0 => rfl
  | i + 1 => by
    have := eo0_len g i
    rw [eo0, clt]
    split
    · rw [List.length_append]; show (((eo0 g i).length + 1 : Nat) : Int) = _; omega
    · omega
theorem eo0_ok (g : Nat → Int) : ∀ i : Nat, (∀ j, j < i → 0 ≤ g j) → oOK (eo0 g i)
  | 0, _ => fun x hx => by simp [eo0] at hx
  | i + 1, h => by
    have ih := eo0_ok g i fun j hj => h j (by omega)
    rw [eo0]
    split
    · rename_i h1
      intro x hx
      rcases List.mem_append.1 hx with k | k
      · exact ih x k
      · obtain rfl := List.mem_singleton.1 k
        exact ⟨h i (by omega), h1⟩
    · exact ih
theorem stp_eq (h0 m : Int) (s : ES) (r : Int) (h : r = m) : stp h0 m s r = ⟨s.h + 1, 0, adp s.d (s.h + 1) (s.h == h0), s.o ++ num s.d s.b⟩ := by rw [stp, if_pos h]
theorem stp_lt (h0 m : Int) (s : ES) (r : Int) (h : r < m) : stp h0 m s r = { s with d := s.d + 1 } := by rw [stp, if_neg (by omega), if_pos h]
theorem stp_gt (h0 m : Int) (s : ES) (r : Int) (h : m < r) : stp h0 m s r = s := by rw [stp, if_neg (by omega), if_neg (by omega)]
structure FO (g : Nat → Int) (h0 m : Int) (s : ES) (i : Nat) : Prop where
  h : (fol g h0 m s i).h = s.h + ceq g m i
  d0 : 0 ≤ (fol g h0 m s i).d
  d1 : (fol g h0 m s i).d ≤ s.d + i
  b0 : 0 ≤ (fol g h0 m s i).b
  b1 : (fol g h0 m s i).b ≤ 400
  o : oOK (fol g h0 m s i).o
  l : (fol g h0 m s i).o.length ≤ s.o.length + 19 * i
theorem fol_prop (g : Nat → Int) (h0 m : Int) (s : ES) (hd : 0 ≤ s.d) (hh : 0 ≤ s.h) (hb0 : 0 ≤ s.b) (hb1 : s.b ≤ 400) (ho : oOK s.o) : ∀ i : Nat, s.d + i ≤ 35000000000000000 → FO g h0 m s i
  | 0, _ => ⟨by show s.h = s.h + 0; omega, hd, by show s.d ≤ s.d + 0; omega, hb0, hb1, ho, by show s.o.length ≤ _; omega⟩
  | i + 1, hl => by
    obtain ⟨a1, a2, a3, a4, a5, a6, a7⟩ := fol_prop g h0 m s hd hh hb0 hb1 ho i (by omega)
    have hc := ceq_rng g m i
    have e : fol g h0 m s (i + 1) = stp h0 m (fol g h0 m s i) (g i) := rfl
    rcases Int.lt_trichotomy (g i) m with h | h | h
    · have e2 : ceq g m (i + 1) = ceq g m i := by rw [ceq, if_neg (by omega)]
      rw [stp_lt _ _ _ _ h] at e
      exact ⟨by rw [e, e2]; exact a1, by rw [e]; show 0 ≤ _ + 1; omega, by rw [e]; show (fol g h0 m s i).d + 1 ≤ _; omega, by rw [e]; exact a4, by rw [e]; exact a5, by rw [e]; exact a6, by rw [e]; show (fol g h0 m s i).o.length ≤ _; omega⟩
    · have e2 : ceq g m (i + 1) = ceq g m i + 1 := by rw [ceq, if_pos h]
      rw [stp_eq _ _ _ _ h] at e
      have hb := adp_rng (fol g h0 m s i).d ((fol g h0 m s i).h + 1) ((fol g h0 m s i).h == h0) a2 (by omega) (by omega)
      have hn := num_len (fol g h0 m s i).d (fol g h0 m s i).b
      refine ⟨by rw [e, e2]; show (fol g h0 m s i).h + 1 = _; omega, by rw [e]; exact Int.le_refl _, by rw [e]; show (0 : Int) ≤ _; omega, by rw [e]; exact hb.1, by rw [e]; exact hb.2, ?_, ?_⟩
      · rw [e]
        intro x hx
        rcases List.mem_append.1 hx with k | k
        · exact a6 x k
        · have := num_rng _ _ a2 x k
          omega
      · rw [e]
        show ((fol g h0 m s i).o ++ num (fol g h0 m s i).d (fol g h0 m s i).b).length ≤ _
        rw [List.length_append]; omega
    · have e2 : ceq g m (i + 1) = ceq g m i := by rw [ceq, if_neg (by omega)]
      rw [stp_gt _ _ _ _ h] at e
      exact ⟨by rw [e, e2]; exact a1, by rw [e]; exact a2, by rw [e]; omega, by rw [e]; exact a4, by rw [e]; exact a5, by rw [e]; exact a6, by rw [e]; omega⟩
theorem o_byte {o : List Int} (h : oOK o) (j : Nat) : ([X8 (o.getD (0 + j) 0)] : List XV) = [X8 ((UInt8.ofNat (o.getD (0 + j) 0).toNat).toNat : Int)] := by
  have : 0 ≤ o.getD (0 + j) 0 ∧ o.getD (0 + j) 0 < 128 := by
    rw [List.getD_eq_getElem?_getD]
    cases hx : o[0 + j]? with
    | none => exact ⟨Int.le_refl _, by decide⟩
    | some x => exact h x (List.mem_of_getElem? hx)
  rw [UInt8.toNat_ofNat']
  congr 4
  omega
theorem row_snoc (o : List Int) (d : Int) (j : Nat) (hj : j < o.length + 1) : ([Bool.rec (X8 d) (X8 (o.getD j 0)) (j.blt o.length)] : List XV) = [X8 ((o ++ [d]).getD j 0)] := by
  rw [bltN, List.getD_eq_getElem?_getD, List.getD_eq_getElem?_getD]
  by_cases e : j < o.length
  · rw [decide_eq_true e, List.getElem?_append_left e]
  · rw [decide_eq_false e, show j = o.length by omega]
    simp
theorem getD_rec (o : List Int) (j : Nat) : o.getD j 0 = Option.rec (motive := fun _ => Int) 0 (fun v => v) o[j]? := by
  rw [List.getD_eq_getElem?_getD]
  cases o[j]? <;> rfl
theorem nmC_rec (o c : List Int) (j : Nat) : nmC o.length (fun j => Option.rec (motive := fun _ => Int) 0 (fun v => v) o[j]?) c j = nmC o.length (fun j => o.getD j 0) c j := by
  congr 1
  funext j
  exact (getD_rec o j).symm
theorem nmC_app (o c : List Int) (j : Nat) : nmC o.length (fun j => o.getD j 0) c j = (o ++ c).getD j 0 := by
  unfold nmC
  dsimp only
  rw [List.getD_eq_getElem?_getD, List.getD_eq_getElem?_getD, List.getD_eq_getElem?_getD]
  split
  · rename_i h; rw [List.getElem?_append_left h]
  · rename_i h; rw [List.getElem?_append_right (by omega)]
theorem encG_stop {g : Nat → Int} {len : Nat} {h0 : Int} {f : Nat} {n : Int} {s : ES} (h : s.o.length > 63) : encG g len h0 f n s = ([], 2) := by
  cases f with
  | zero => rw [encG, if_pos h]
  | succ f => rw [encG, if_pos h]
theorem encG_end {g : Nat → Int} {len : Nat} {h0 : Int} {f : Nat} {n : Int} {s : ES} (h : ¬ s.o.length > 63) (h2 : ¬ s.h < len) : encG g len h0 f n s = (s.o, 0) := by
  cases f with
  | zero => rw [encG, if_neg h]
  | succ f => rw [encG, if_neg h, if_neg h2]
theorem encG_go {g : Nat → Int} {len : Nat} {h0 : Int} {f : Nat} {n : Int} {s : ES} (h : ¬ s.o.length > 63) (h2 : s.h < len) : encG g len h0 (f + 1) n s = encG g len h0 f (mnr g n len + 1) { rnd g len h0 n s with d := (rnd g len h0 n s).d + 1 } := by
  rw [encG, if_neg h, if_pos h2]
theorem eo1_len (g : Nat → Int) (n : Nat) : (eo1 g n).length ≤ (eo0 g n).length + 1 := by
  unfold eo1
  split
  · simp
  · omega
theorem eo1_ok (g : Nat → Int) (n : Nat) (h : oOK (eo0 g n)) : oOK (eo1 g n) := by
  unfold eo1
  split
  · intro x hx
    rcases List.mem_append.1 hx with k | k
    · exact h x k
    · obtain rfl := List.mem_singleton.1 k
      exact ⟨by decide, by decide⟩
  · exact h
theorem enc_v (q : Sq Int) (hn : q.n ≤ 2000) (hg : ∀ i, i < q.n → 0 ≤ q.g i ∧ q.g i ≤ 1114111) : encV q := by
  have hE0 : ∀ i, i ≤ q.n → (eo0 q.g i).length ≤ i := fun i hi => by
    have h1 := eo0_len q.g i
    have h2 := clt_rng q.g 128 i
    omega
  unfold encV
  refine ⟨⟨⟨0⟩, Nat.zero_le _, rfl, rfl, rfl, rfl, rfl, rfl, ⟨⟨rfl, rfl, rfl⟩, rfl, fun j hj => by omega⟩, trivial⟩, ?_⟩
  rintro ⟨i⟩ hi
  have hi : i ≤ q.n := hi
  refine ⟨fun h => ?_, fun h => ?_⟩
  · have h : (i : Int) < q.n := of_decide_eq_true h
    have hil := hE0 i hi
    obtain ⟨g0, g1⟩ := hg i (by omega)
    dsimp only
    refine ⟨by omega, h, fun h1 => ?_, fun h1 => ?_⟩
    · have h1 : q.g i < 128 := of_decide_eq_true h1
      have e : eo0 q.g (i + 1) = eo0 q.g i ++ [q.g i] := by rw [eo0, if_pos h1]
      have el : (eo0 q.g (i + 1)).length = (eo0 q.g i).length + 1 := by rw [e, List.length_append]; rfl
      refine ⟨rfl, by omega, by omega, by unfold in64; omega, ⟨i + 1⟩, by show i + 1 ≤ q.n; omega, by show q.n - (i + 1) < q.n - i; omega, rfl, rfl, by rw [el], rfl, rfl, rfl, ⟨⟨rfl, rfl, rfl⟩, by rw [el], fun j hj => ?_⟩, trivial⟩
      rw [e, show IntKind.u8.wrap (q.g (i : Int).toNat) = q.g i from wrap8_in g0 (show q.g i ≤ 255 by omega)]
      exact row_snoc _ _ j hj
    · have h1 : ¬ q.g i < 128 := of_decide_eq_false h1
      have e : eo0 q.g (i + 1) = eo0 q.g i := by rw [eo0, if_neg h1]
      exact ⟨by unfold in64; omega, ⟨i + 1⟩, by show i + 1 ≤ q.n; omega, by show q.n - (i + 1) < q.n - i; omega, rfl, rfl, by rw [e], rfl, rfl, rfl, ⟨⟨rfl, rfl, rfl⟩, by rw [e], fun j hj => by rw [e]⟩, trivial⟩
  have h : ¬ (i : Int) < q.n := of_decide_eq_false h
  obtain rfl : i = q.n := by omega
  have hl0 := hE0 q.n (Nat.le_refl _)
  dsimp only
  refine ⟨⟨fun h1 => ?_, fun h1 => ?_⟩, fun _ _ => ?_⟩
  · have h1 : ((eo0 q.g q.n).length : Int) > 0 := of_decide_eq_true h1
    have e : eo1 q.g q.n = eo0 q.g q.n ++ [45] := by rw [eo1, if_pos (by omega)]
    have el : (eo1 q.g q.n).length = (eo0 q.g q.n).length + 1 := by rw [e, List.length_append]; rfl
    refine ⟨rfl, by omega, by omega, ⟨0⟩, trivial, rfl, rfl, by rw [el], rfl, rfl, ⟨⟨rfl, rfl, rfl⟩, by rw [el], fun j hj => ?_⟩, trivial⟩
    rw [e]
    exact row_snoc _ _ j hj
  · have h1 : ¬ ((eo0 q.g q.n).length : Int) > 0 := of_decide_eq_false h1
    have e : eo1 q.g q.n = eo0 q.g q.n := by rw [eo1, if_neg (by omega)]
    exact ⟨⟨0⟩, trivial, rfl, rfl, by rw [e], rfl, rfl, ⟨⟨rfl, rfl, rfl⟩, by rw [e], fun j hj => by rw [e]⟩, trivial⟩
  have hok0 := eo0_ok q.g q.n fun j hj => (hg j hj).1
  have hcl := eo0_len q.g q.n
  have hcr := clt_rng q.g 128 q.n
  have hl1 := eo1_len q.g q.n
  refine ⟨⟨⟨128, ⟨(eo0 q.g q.n).length, 0, 72, eo1 q.g q.n⟩, q.n⟩, ⟨⟨⟨Int.le_refl _, by show (128 : Int) ≤ 1114112; decide⟩, by show ((eo0 q.g q.n).length : Int) = _; omega, ⟨by omega, Int.le_refl _⟩, ⟨Int.le_refl _, by show (0 : Int) ≤ ((q.n : Int) - (q.n : Int)) * 2300000000; omega⟩, ⟨by show (0 : Int) ≤ 72; decide, by show (72 : Int) ≤ 400; decide⟩, eo1_ok _ _ hok0, by show (eo1 q.g q.n).length ≤ 50000; omega, ⟨by show (q.n : Int) - ((eo0 q.g q.n).length : Int) ≤ q.n; omega, Nat.le_refl _⟩⟩, rfl⟩, rfl, rfl, rfl, rfl, rfl, rfl, rfl, rfl, ⟨⟨rfl, rfl, rfl⟩, rfl, fun j hj => rfl⟩, trivial⟩, ?_⟩
  rintro ⟨n, s, f⟩ ⟨hK, hG⟩
  obtain ⟨⟨n0, n1⟩, kh, ⟨h00, h01⟩, ⟨d0, d1⟩, ⟨b0, b1⟩, ko, kl, ⟨f0, f1⟩⟩ := hK
  dsimp only at n0 n1 kh h00 h01 d0 d1 b0 b1 ko kl f0 f1 hG
  have hcn := clt_rng q.g n q.n
  dsimp only
  refine ⟨fun h2' => ?_, fun h2 => ?_⟩
  · have h2 : s.h < q.n := of_decide_eq_true h2'
    refine ⟨fun h3 => ?_, fun h3 => ?_⟩
    · have h3 : (s.o.length : Int) > 63 := of_decide_eq_true h3
      rw [encG_stop (by omega)] at hG
      rw [← hG]
      exact ⟨rfl, rfl, trivial⟩
    have h3 : ¬ s.o.length > 63 := by have := of_decide_eq_false h3; omega
    refine ⟨⟨n, s, f⟩, ⟨⟨0⟩, Nat.zero_le _, rfl, rfl, rfl, rfl, rfl, rfl, rfl, rfl, rfl, rfl, rfl, rfl, ⟨⟨rfl, rfl, rfl⟩, rfl, fun j hj => rfl⟩, trivial⟩, ?_⟩
    rintro ⟨i⟩ hi
    have hi : i ≤ q.n := hi
    dsimp only
    refine ⟨fun h => ?_, fun h => ?_⟩
    · have h : (i : Int) < q.n := of_decide_eq_true h
      refine ⟨by omega, h, fun h1 => ?_, fun h1 => ?_⟩
      · simp only [Bool.and_eq_true, decide_eq_true_eq, Int.toNat_natCast] at h1
        have e : mnr q.g n (i + 1) = q.g i := by rw [mnr, if_pos ⟨h1.1, h1.2⟩]
        exact ⟨by unfold in64; omega, ⟨i + 1⟩, by show i + 1 ≤ q.n; omega, by show q.n - (i + 1) < q.n - i; omega, rfl, rfl, rfl, rfl, rfl, rfl, rfl, rfl, by show q.g (i : Int).toNat = mnr q.g n (i + 1); rw [e]; rfl, rfl, rfl, rfl, ⟨⟨rfl, rfl, rfl⟩, rfl, fun j hj => rfl⟩, trivial⟩
      · have e : mnr q.g n (i + 1) = mnr q.g n i := by
          rw [mnr, if_neg]
          intro hx
          simp only [Bool.and_eq_false_iff, decide_eq_false_iff_not, Int.toNat_natCast] at h1
          omega
        exact ⟨by unfold in64; omega, ⟨i + 1⟩, by show i + 1 ≤ q.n; omega, by show q.n - (i + 1) < q.n - i; omega, rfl, rfl, rfl, rfl, rfl, rfl, rfl, rfl, by show mnr q.g n i = mnr q.g n (i + 1); rw [e], rfl, rfl, rfl, ⟨⟨rfl, rfl, rfl⟩, rfl, fun j hj => rfl⟩, trivial⟩
    have h : ¬ (i : Int) < q.n := of_decide_eq_false h
    obtain rfl : i = q.n := by omega
    obtain ⟨m0, m1, m2, m3⟩ := mnr_prop q.g n n1 q.n
    obtain ⟨jx, hj1, hj2⟩ := clt_ex q.g n q.n (by omega)
    have hmn : mnr q.g n q.n ≤ q.g jx := by
      rcases m2 jx hj1 with k | k
      · omega
      · exact k
    have hgx := (hg jx hj1).2
    obtain ⟨jm, hm1, hm2⟩ : ∃ j, j < q.n ∧ q.g j = mnr q.g n q.n := by
      rcases m3 with k | k
      · omega
      · exact k
    have hce := ceq_pos q.g (mnr q.g n q.n) q.n jm hm1 hm2
    have hcr := clt_round q.g n (mnr q.g n q.n) m0 q.n m2
    have hceq := ceq_rng q.g (mnr q.g n q.n) q.n
    have hcm := clt_rng q.g (mnr q.g n q.n + 1) q.n
    rw [w32 (by omega) (by omega)]
    have hp0 : 0 ≤ (mnr q.g n q.n - n) * (s.h + 1) := Int.mul_nonneg (by omega) (by omega)
    have hp1 : (mnr q.g n q.n - n) * (s.h + 1) ≤ 1114112 * 2001 := Int.mul_le_mul (by omega) (by omega) (by omega) (by decide)
    have hfn : ((q.n : Int) - f) * 2300000000 ≤ 2000 * 2300000000 := Int.mul_le_mul (by omega) (Int.le_refl _) (by decide) (by decide)
    have hF : ∀ i, i ≤ q.n → FO q.g (eo0 q.g q.n).length (mnr q.g n q.n) { s with d := s.d + (mnr q.g n q.n - n) * (s.h + 1) } i := fun i hi =>
      fol_prop q.g (eo0 q.g q.n).length (mnr q.g n q.n) { s with d := s.d + (mnr q.g n q.n - n) * (s.h + 1) } (by show 0 ≤ s.d + _; omega) (by show 0 ≤ s.h; omega) b0 b1 ko i (by show s.d + _ + _ ≤ _; omega)
    refine ⟨by unfold in64; omega, by unfold in64; omega, by unfold in64; omega, by unfold in64; omega, ⟨n, s, f⟩, ⟨⟨0⟩, Nat.zero_le _, rfl, rfl, rfl, rfl, rfl, rfl, rfl, rfl, rfl, rfl, rfl, ⟨⟨rfl, rfl, rfl⟩, rfl, fun j hj => rfl⟩, trivial⟩, ?_⟩
    rintro ⟨i⟩ hi
    have hi : i ≤ q.n := hi
    have hFi := hF i hi
    have efo : fol q.g (eo0 q.g q.n).length (mnr q.g n q.n) { s with d := s.d + (mnr q.g n q.n - n) * (s.h + 1) } i = fo1 q ⟨n, s, f⟩ i := rfl
    obtain ⟨p1, p2, p3, p4, p5, p6, p7⟩ := hFi
    rw [efo] at p1 p2 p3 p4 p5 p6 p7
    dsimp only at p1 p3 p7
    have hci := ceq_rng q.g (mnr q.g n q.n) i
    have est : fo1 q ⟨n, s, f⟩ (i + 1) = stp (eo0 q.g q.n).length (mnr q.g n q.n) (fo1 q ⟨n, s, f⟩ i) (q.g i) := rfl
    dsimp only
    refine ⟨fun h => ?_, fun h => ?_⟩
    · have h : (i : Int) < q.n := of_decide_eq_true h
      refine ⟨by omega, h, fun h1 => ?_, fun h1 => ?_⟩
      · have h1 : q.g i < mnr q.g n q.n := of_decide_eq_true h1
        rw [stp_lt _ _ _ _ h1] at est
        refine ⟨by unfold in64; omega, fun h4 => ?_, fun h4 => ?_⟩
        · exact ⟨by unfold in64; omega, ⟨i + 1⟩, by show i + 1 ≤ q.n; omega, by show q.n - (i + 1) < q.n - i; omega, rfl, rfl, by rw [est], by rw [est], rfl, rfl, by rw [est], by rw [est], rfl, rfl, rfl, ⟨⟨rfl, rfl, rfl⟩, by rw [est], fun j hj => by rw [est]⟩, trivial⟩
        · have h4 : q.g i = mnr q.g n q.n := by simpa using h4
          omega
      · have h1 : ¬ q.g i < mnr q.g n q.n := of_decide_eq_false h1
        refine ⟨fun h4 => ?_, fun h4 => ?_⟩
        · have h4 : q.g i ≠ mnr q.g n q.n := by simpa using h4
          rw [stp_gt _ _ _ _ (by omega)] at est
          exact ⟨by unfold in64; omega, ⟨i + 1⟩, by show i + 1 ≤ q.n; omega, by show q.n - (i + 1) < q.n - i; omega, rfl, rfl, by rw [est], by rw [est], rfl, rfl, by rw [est], by rw [est], rfl, rfl, rfl, ⟨⟨rfl, rfl, rfl⟩, by rw [est], fun j hj => by rw [est]⟩, trivial⟩
        · have h4 : q.g i = mnr q.g n q.n := by simpa using h4
          rw [stp_eq _ _ _ _ h4] at est
          refine ⟨rfl, fun j hj => congrArg (fun z => [X8 z]) (getD_rec _ j), p2, by omega, by omega, by omega, by omega, by unfold in64; omega, p2, by omega, by omega, by unfold in64; omega, by unfold in64; omega, ⟨i + 1⟩, by show i + 1 ≤ q.n; omega, by show q.n - (i + 1) < q.n - i; omega, rfl, rfl, by rw [est, List.length_append], by rw [est], rfl, rfl, by rw [est], by rw [est], rfl, rfl, rfl, ⟨⟨rfl, rfl, rfl⟩, by rw [est, List.length_append], fun j hj => ?_⟩, trivial⟩
          rw [est]
          exact congrArg (fun z => [X8 z]) ((nmC_rec _ _ j).trans (nmC_app _ _ j))
    · have h : ¬ (i : Int) < q.n := of_decide_eq_false h
      obtain rfl : i = q.n := by omega
      have ernd : rnd q.g q.n (eo0 q.g q.n).length n s = fo1 q ⟨n, s, f⟩ q.n := rfl
      cases f with
      | zero => omega
      | succ f =>
        rw [encG_go (by assumption) h2, ernd] at hG
        rw [w32 (by omega) (by omega)]
        refine ⟨by unfold in64; omega, ⟨mnr q.g n q.n + 1, { fo1 q ⟨n, s, f + 1⟩ q.n with d := (fo1 q ⟨n, s, f + 1⟩ q.n).d + 1 }, f⟩, ⟨⟨⟨?_, ?_⟩, ?_, ⟨?_, ?_⟩, ⟨?_, ?_⟩, ⟨p4, p5⟩, p6, ?_, ⟨?_, ?_⟩⟩, hG⟩, by show f < f + 1; omega, rfl, rfl, rfl, rfl, rfl, rfl, rfl, rfl, ⟨⟨rfl, rfl, rfl⟩, rfl, fun j hj => rfl⟩, trivial⟩
        · show 128 ≤ _ + 1; omega
        · show mnr q.g n q.n + 1 ≤ 1114112; omega
        · show (fo1 q ⟨n, s, f + 1⟩ q.n).h = clt q.g (mnr q.g n q.n + 1) q.n; omega
        · omega
        · show _ ≤ (fo1 q ⟨n, s, f + 1⟩ q.n).h; omega
        · show 0 ≤ (fo1 q ⟨n, s, f + 1⟩ q.n).d + 1; omega
        · show (fo1 q ⟨n, s, f + 1⟩ q.n).d + 1 ≤ ((q.n : Int) - (f : Int)) * 2300000000; omega
        · show (fo1 q ⟨n, s, f + 1⟩ q.n).o.length ≤ 50000; omega
        · show (q.n : Int) - (fo1 q ⟨n, s, f + 1⟩ q.n).h ≤ (f : Int); omega
        · show f ≤ q.n; omega
  · have h2 : ¬ s.h < q.n := of_decide_eq_false h2
    refine ⟨fun h3 => ?_, fun h3 => ?_⟩
    · have h3 : (s.o.length : Int) > 63 := of_decide_eq_true h3
      rw [encG_stop (by omega)] at hG
      rw [← hG]
      exact ⟨rfl, rfl, trivial⟩
    · have h3 : ¬ (s.o.length : Int) > 63 := of_decide_eq_false h3
      rw [encG_end (by omega) h2] at hG
      rw [← hG]
      exact ⟨by omega, fun j hj => o_byte ko j, rfl, rfl, trivial⟩
/-- Runes. -/
def dRn : Dc (Sq Int) := dSl 1 (fun l => rune1 (xget l 0)) (fun i => [X32 i]) 0
def encC : CT := C1 dRn (fun q => [q.n ≤ 2000, ∀ i, i < q.n → 0 ≤ q.g i ∧ q.g i ≤ 1114111]) fun q => .tup [XT (txtO (encR q.g q.n).1), XI (encR q.g q.n).2]
theorem enc_ok : CTok Tryd.prog 27 encC := C1_ok cxe_ok Tryd.func27 rfl (by decide) dSl_ok (by kernel_rfl) (fun _ => rfl) fun q hc => exv (encV_eq q) (enc_v q (hc _ (by simp)) (hc _ (by simp)))
end Go.Proofs.YthomfpdigmeheaaDoorAv
set_option linter.unusedVariables false
set_option linter.unusedSimpArgs false
set_option maxRecDepth 100000
namespace Go.Proofs.YthomfpdigmeheaaDoorAv
open Go Go.RowKit
/-- A number read off its digits, and what is left. -/
def dnG (b : Int) : List UInt8 → Int → Int → Int → Option (List UInt8 × Int)
  | [], _, _, _ => none
  | c :: l, i, w, k => if vlu c.toNat = 36 ∨ i > 71303104 ∨ w > 71303104 then none else if vlu c.toNat < thr k b then some (l, i + vlu c.toNat * w) else dnG b l (i + vlu c.toNat * w) (w * (36 - thr k b)) (k + 36)
def badR (n : Int) : Prop := n > 1114111 ∨ (55296 ≤ n ∧ n ≤ 57343)
instance (n : Int) : Decidable (badR n) := inferInstanceAs (Decidable (_ ∨ _))
def dcG : Nat → List UInt8 → Int → Int → Int → List Int → Option (List Int)
  | _, [], _, _, _, o => some o
  | 0, _ :: _, _, _, _, _ => none
  | f + 1, c :: l, n, i, b, o => match dnG b (c :: l) i 1 36 with
    | none => none
    | some (l', j) => if badR (n + j / (o.length + 1)) then none else dcG f l' (n + j / (o.length + 1)) (j % (o.length + 1) + 1) (adp (j - i) (o.length + 1) (i == 0)) (o.take (j % (o.length + 1)).toNat ++ (n + j / (o.length + 1)) :: o.drop (j % (o.length + 1)).toNat)
/-- What follows a number that is read. -/
def dcN (f : Nat) (n i : Int) (o : List Int) : Option (List UInt8 × Int) → Option (List Int)
  | none => none
  | some (l', j) => if badR (n + j / (o.length + 1)) then none else dcG f l' (n + j / (o.length + 1)) (j % (o.length + 1) + 1) (adp (j - i) (o.length + 1) (i == 0)) (o.take (j % (o.length + 1)).toNat ++ (n + j / (o.length + 1)) :: o.drop (j % (o.length + 1)).toNat)
theorem dcG_cons (f : Nat) (c : UInt8) (l : List UInt8) (n i b : Int) (o : List Int) : dcG (f + 1) (c :: l) n i b o = dcN f n i o (dnG b (c :: l) i 1 36) := by
  rw [dcG]
  cases dnG b (c :: l) i 1 36 <;> rfl
def decK (s : ByteArray) : Option (List Int) → List Int × Int
  | none => ([], 3)
  | some o => if (encR (fun j => o.getD j 0) o.length).2 ≠ 0 ∨ eqfB (txtO (encR (fun j => o.getD j 0) o.length).1) s = false then ([], 3) else (o, 0)
def lst (s : ByteArray) (p : Nat) : List UInt8 := s.data.toList.drop p
def preL (s : ByteArray) (m : Nat) : List Int := (s.data.toList.take m).map fun c => (c.toNat : Int)
def decR (s : ByteArray) : List Int × Int :=
  if s.size > 63 then ([], 3)
  else if ∃ j, j < (imax (lastB s 45) 0).toNat ∧ sbyte s (j : Nat) ≥ 128 then ([], 3)
  else decK s (dcG (s.size + 1) (lst s (lastB s 45 + 1).toNat) 128 0 72 (preL s (imax (lastB s 45) 0).toNat))
def rsT (s : ByteArray) (p : Nat) : ByteArray := s.extract p s.size
def cxd : Cx := { cx0 with C := [(27, encC), (42, vluC), (43, thrC), (38, adpC), (41, lastC), (44, eqfC)], K := true }
structure DS where
  p : Nat
  n : Int
  i : Int
  b : Int
  o : List Int
  f : Nat
structure DQ where
  p : Nat
  i : Int
  w : Int
  k : Int
def rowR (o : List Int) : XRow := .vec 21 true o.length 1 fun j => [X32 (o.getD j 0)]
def asc (s : ByteArray) (p : Nat) : Prop := ∀ j : Nat, j < p → sbyte s j < 128
def deI0 (s : ByteArray) : Inv where
  σ := IL
  S := fun x => ⟨[(0, XT s), (4, .sl 0 1 0 x.i), (5, XI (lastB s 45)), (25, XI (imax (lastB s 45) 0)), (26, XI x.i)], [(0, .vec 21 true x.i 1 fun j => [X32 (sbyte s j)])], 1, false, []⟩
  inv := fun x => (x.i : Int) ≤ imax (lastB s 45) 0 ∧ asc s x.i
  μ := fun x => s.size - x.i
structure DOK (s : ByteArray) (x : DS) : Prop where
  p : x.p ≤ s.size
  f : s.size < x.p + x.f
  l : x.o.length ≤ x.p
  i : 0 ≤ x.i ∧ x.i ≤ x.o.length
  n : 128 ≤ x.n ∧ x.n ≤ 1114111
  b : 0 ≤ x.b ∧ x.b ≤ 400
  a : asc s x.p
  o : ∀ y ∈ x.o, 0 ≤ y ∧ y ≤ 1114111
def deI2 (s : ByteArray) : Inv where
  σ := DS
  S := fun x => ⟨[(0, XT s), (4, .sl 0 1 0 x.o.length), (7, XI x.n), (8, XI x.i), (9, XI x.b), (10, XT (rsT s x.p))], [(0, rowR x.o)], 1, false, []⟩
  inv := fun x => DOK s x ∧ decK s (dcG x.f (lst s x.p) x.n x.i x.b x.o) = decR s
  μ := fun x => s.size - x.p
structure TOK (s : ByteArray) (y : DS) (x : DQ) : Prop where
  p : y.p ≤ x.p ∧ x.p ≤ s.size
  i : y.i ≤ x.i ∧ x.i ≤ 2566911744
  w : 1 ≤ x.w ∧ x.w ≤ 2495608640
  k : 36 ≤ x.k ∧ x.k + 36 * y.p ≤ 36 + 36 * x.p
  a : asc s x.p
def deI4 (s : ByteArray) (y : DS) : Inv where
  σ := DQ
  S := fun x => ⟨[(0, XT s), (4, .sl 0 1 0 y.o.length), (7, XI y.n), (8, XI x.i), (9, XI y.b), (10, XT (rsT s x.p)), (11, XI y.i), (12, XI x.w), (13, XI x.k)], [(0, rowR y.o)], 1, false, []⟩
  inv := fun x => TOK s y x ∧ decK s (dcN (y.f - 1) y.n y.i y.o (dnG y.b (lst s x.p) x.i x.w x.k)) = decR s
  μ := fun x => s.size - x.p
def deE (s : ByteArray) : Env := { loops := [(0, deI0 s), (2, deI2 s)], loopsP := [(4, ⟨DS, deI4 s⟩)], own := [(4, [(4, 21, 1)])], frz := [(37, [4])] }
def fzL (o : List Int) : XV := .fz o.length 1 fun j => [X32 (o.getD j 0)]
def decV (s : ByteArray) : Prop :=
  (decide ((↑s.size : Int) > (63 : Int)) = true → (decR s).fst.length = (0 : Nat) ∧ (3 : Int) = (decR s).snd ∧ True) ∧ (decide ((↑s.size : Int) > (63 : Int)) = false → s.size ≤ (1000000 : Nat) ∧ (∃ (x : (deI0 s).σ), ((↑x.i : Int) ≤ imax (lastB s (45 : Int)) (0 : Int) ∧ asc s x.i) ∧ true = true ∧ s = s ∧ XV.sl (0 : Nat) (1 : Nat) (0 : Nat) (0 : Nat) = XV.sl (0 : Nat) (1 : Nat) (0 : Nat) x.i ∧ lastB s (45 : Int) = lastB s (45 : Int) ∧ imax (lastB s (45 : Int)) (0 : Int) = imax (lastB s (45 : Int)) (0 : Int) ∧ (0 : Int) = (↑x.i : Int) ∧ (((21 : Nat) = (21 : TypeId) ∧ true = true ∧ (1 : Nat) = (1 : Nat)) ∧ (0 : Nat) = x.i ∧ ∀ (j : Nat), j < (0 : Nat) → [] = [X32 (sbyte s (↑j : Int))]) ∧ True) ∧ ∀ (x : IL), (↑x.i : Int) ≤ imax (lastB s (45 : Int)) (0 : Int) ∧ asc s x.i → (decide ((↑x.i : Int) < imax (lastB s (45 : Int)) (0 : Int)) = true → (0 : Int) ≤ (↑x.i : Int) ∧ (↑x.i : Int) < (↑s.size : Int) ∧ (decide (sbyte s (↑x.i : Int) ≥ (128 : Int)) = true → (decR s).fst.length = (0 : Nat) ∧ (3 : Int) = (decR s).snd ∧ True) ∧ (decide (sbyte s (↑x.i : Int) ≥ (128 : Int)) = false → (0 : Int) ≤ (↑x.i : Int) ∧ (↑x.i : Int) < (↑s.size : Int) ∧ x.i.le x.i ∧ (x.i + (1 : Nat)) * (4 : Nat) ≤ (140737488355328 : Nat) ∧ x.i + (1 : Nat) ≤ (140737488355328 : Nat) ∧ in64 ((↑x.i : Int) + (1 : Int)) ∧ ∃ (x' : (deI0 s).σ), ((↑x'.i : Int) ≤ imax (lastB s (45 : Int)) (0 : Int) ∧ asc s x'.i) ∧ s.size - x'.i < s.size - x.i ∧ true = true ∧ s = s ∧ XV.sl (0 : Nat) (1 : Nat) (0 : Nat) (x.i + (1 : Nat)) = XV.sl (0 : Nat) (1 : Nat) (0 : Nat) x'.i ∧ lastB s (45 : Int) = lastB s (45 : Int) ∧ imax (lastB s (45 : Int)) (0 : Int) = imax (lastB s (45 : Int)) (0 : Int) ∧ (↑x.i : Int) + (1 : Int) = (↑x'.i : Int) ∧ (((21 : TypeId) = (21 : TypeId) ∧ true = true ∧ (1 : Nat) = (1 : Nat)) ∧ x.i + (1 : Nat) = x'.i ∧ ∀ (j : Nat), j < x.i + (1 : Nat) → [Bool.rec (X32 (IntKind.i32.wrap (sbyte s (↑x.i : Int)))) (X32 (sbyte s (↑j : Int))) (j.blt x.i)] = [X32 (sbyte s (↑j : Int))]) ∧ True)) ∧ (decide ((↑x.i : Int) < imax (lastB s (45 : Int)) (0 : Int)) = false → in64 (lastB s (45 : Int) + (1 : Int)) ∧ (0 : Int) ≤ lastB s (45 : Int) + (1 : Int) ∧ lastB s (45 : Int) + (1 : Int) ≤ (↑s.size : Int) ∧ (↑s.size : Int) ≤ (↑s.size : Int) ∧ (∃ (x_1 : (deI2 s).σ), (DOK s x_1 ∧ decK s (dcG x_1.f (lst s x_1.p) x_1.n x_1.i x_1.b x_1.o) = decR s) ∧ true = true ∧ s = s ∧ XV.sl (0 : Nat) (1 : Nat) (0 : Nat) x.i = XV.sl (0 : Nat) (1 : Nat) (0 : Nat) x_1.o.length ∧ (128 : Int) = x_1.n ∧ (0 : Int) = x_1.i ∧ (72 : Int) = x_1.b ∧ s.extract (lastB s (45 : Int) + (1 : Int)).toNat (↑s.size : Int).toNat = rsT s x_1.p ∧ (((21 : TypeId) = (21 : TypeId) ∧ true = true ∧ (1 : Nat) = (1 : Nat)) ∧ x.i = x_1.o.length ∧ ∀ (j : Nat), j < x.i → [X32 (sbyte s (↑j : Int))] = [X32 (x_1.o.getD j (0 : Int))]) ∧ True) ∧ ∀ (x : DS), DOK s x ∧ decK s (dcG x.f (lst s x.p) x.n x.i x.b x.o) = decR s → ((!decide (rsT s x.p = { data := #[] : ByteArray })) = true → ∃ (p : { α := DS, J := deI4 s : InvP }.α), (∃ (x_1 : ({ α := DS, J := deI4 s : InvP }.J p).σ), (TOK s p x_1 ∧ decK s (dcN (p.f - (1 : Nat)) p.n p.i p.o (dnG p.b (lst s x_1.p) x_1.i x_1.w x_1.k)) = decR s) ∧ true = true ∧ s = s ∧ XV.sl (0 : Nat) (1 : Nat) (0 : Nat) x.o.length = XV.sl (0 : Nat) (1 : Nat) (0 : Nat) p.o.length ∧ x.n = p.n ∧ x.i = x_1.i ∧ x.b = p.b ∧ rsT s x.p = rsT s x_1.p ∧ x.i = p.i ∧ (1 : Int) = x_1.w ∧ (36 : Int) = x_1.k ∧ (((21 : TypeId) = (21 : TypeId) ∧ true = true ∧ (1 : Nat) = (1 : Nat)) ∧ x.o.length = p.o.length ∧ ∀ (j : Nat), j < x.o.length → [X32 (x.o.getD j (0 : Int))] = [X32 (p.o.getD j (0 : Int))]) ∧ True) ∧ ∀ (x_1 : DQ), TOK s p x_1 ∧ decK s (dcN (p.f - (1 : Nat)) p.n p.i p.o (dnG p.b (lst s x_1.p) x_1.i x_1.w x_1.k)) = decR s → (decide (rsT s x_1.p = { data := #[] : ByteArray }) = true → (decR s).fst.length = (0 : Nat) ∧ (3 : Int) = (decR s).snd ∧ True) ∧ (decide (rsT s x_1.p = { data := #[] : ByteArray }) = false → (0 : Int) ≤ (0 : Int) ∧ (0 : Int) < (↑(rsT s x_1.p).size : Int) ∧ (0 : Int) ≤ (1 : Int) ∧ (1 : Int) ≤ (↑(rsT s x_1.p).size : Int) ∧ (↑(rsT s x_1.p).size : Int) ≤ (↑(rsT s x_1.p).size : Int) ∧ ((vlu (sbyte (rsT s x_1.p) (0 : Int)) == (36 : Int) || decide (x_1.i > (71303104 : Int)) || decide (x_1.w > (71303104 : Int))) = true → (decR s).fst.length = (0 : Nat) ∧ (3 : Int) = (decR s).snd ∧ True) ∧ ((vlu (sbyte (rsT s x_1.p) (0 : Int)) == (36 : Int) || decide (x_1.i > (71303104 : Int)) || decide (x_1.w > (71303104 : Int))) = false → in64 (vlu (sbyte (rsT s x_1.p) (0 : Int)) * x_1.w) ∧ in64 (x_1.i + vlu (sbyte (rsT s x_1.p) (0 : Int)) * x_1.w) ∧ in64 (x_1.k - p.b) ∧ (decide (vlu (sbyte (rsT s x_1.p) (0 : Int)) < thr x_1.k p.b) = true → in64 ((↑p.o.length : Int) + (1 : Int)) ∧ in64 (x_1.i + vlu (sbyte (rsT s x_1.p) (0 : Int)) * x_1.w - p.i) ∧ (0 : Int) ≤ x_1.i + vlu (sbyte (rsT s x_1.p) (0 : Int)) * x_1.w - p.i ∧ x_1.i + vlu (sbyte (rsT s x_1.p) (0 : Int)) * x_1.w - p.i ≤ (35000000000000000 : Int) ∧ (1 : Int) ≤ (↑p.o.length : Int) + (1 : Int) ∧ (↑p.o.length : Int) + (1 : Int) ≠ (0 : Int) ∧ in64 (p.n + IntKind.i64.wrap ((x_1.i + vlu (sbyte (rsT s x_1.p) (0 : Int)) * x_1.w).tdiv ((↑p.o.length : Int) + (1 : Int)))) ∧ (↑p.o.length : Int) + (1 : Int) ≠ (0 : Int) ∧ ((!decide (p.n + IntKind.i64.wrap ((x_1.i + vlu (sbyte (rsT s x_1.p) (0 : Int)) * x_1.w).tdiv ((↑p.o.length : Int) + (1 : Int))) > (1114111 : Int))) = true → (!decide (p.n + IntKind.i64.wrap ((x_1.i + vlu (sbyte (rsT s x_1.p) (0 : Int)) * x_1.w).tdiv ((↑p.o.length : Int) + (1 : Int))) > (1114111 : Int))) = true) ∧ ((!decide (p.n + IntKind.i64.wrap ((x_1.i + vlu (sbyte (rsT s x_1.p) (0 : Int)) * x_1.w).tdiv ((↑p.o.length : Int) + (1 : Int))) > (1114111 : Int))) = true → (!decide (p.n + IntKind.i64.wrap ((x_1.i + vlu (sbyte (rsT s x_1.p) (0 : Int)) * x_1.w).tdiv ((↑p.o.length : Int) + (1 : Int))) > (1114111 : Int))) = true) ∧ ((!decide (p.n + IntKind.i64.wrap ((x_1.i + vlu (sbyte (rsT s x_1.p) (0 : Int)) * x_1.w).tdiv ((↑p.o.length : Int) + (1 : Int))) > (1114111 : Int))) = true → (!decide (p.n + IntKind.i64.wrap ((x_1.i + vlu (sbyte (rsT s x_1.p) (0 : Int)) * x_1.w).tdiv ((↑p.o.length : Int) + (1 : Int))) > (1114111 : Int))) = true) ∧ (decide (p.n + IntKind.i64.wrap ((x_1.i + vlu (sbyte (rsT s x_1.p) (0 : Int)) * x_1.w).tdiv ((↑p.o.length : Int) + (1 : Int))) > (1114111 : Int)) = false → (!decide (p.n + IntKind.i64.wrap ((x_1.i + vlu (sbyte (rsT s x_1.p) (0 : Int)) * x_1.w).tdiv ((↑p.o.length : Int) + (1 : Int))) > (1114111 : Int))) = true) ∧ ((decide (p.n + IntKind.i64.wrap ((x_1.i + vlu (sbyte (rsT s x_1.p) (0 : Int)) * x_1.w).tdiv ((↑p.o.length : Int) + (1 : Int))) > (1114111 : Int)) || decide (p.n + IntKind.i64.wrap ((x_1.i + vlu (sbyte (rsT s x_1.p) (0 : Int)) * x_1.w).tdiv ((↑p.o.length : Int) + (1 : Int))) ≥ (55296 : Int)) && decide (p.n + IntKind.i64.wrap ((x_1.i + vlu (sbyte (rsT s x_1.p) (0 : Int)) * x_1.w).tdiv ((↑p.o.length : Int) + (1 : Int))) ≤ (57343 : Int))) = true → (decR s).fst.length = (0 : Nat) ∧ (3 : Int) = (decR s).snd ∧ True) ∧ ((decide (p.n + IntKind.i64.wrap ((x_1.i + vlu (sbyte (rsT s x_1.p) (0 : Int)) * x_1.w).tdiv ((↑p.o.length : Int) + (1 : Int))) > (1114111 : Int)) || decide (p.n + IntKind.i64.wrap ((x_1.i + vlu (sbyte (rsT s x_1.p) (0 : Int)) * x_1.w).tdiv ((↑p.o.length : Int) + (1 : Int))) ≥ (55296 : Int)) && decide (p.n + IntKind.i64.wrap ((x_1.i + vlu (sbyte (rsT s x_1.p) (0 : Int)) * x_1.w).tdiv ((↑p.o.length : Int) + (1 : Int))) ≤ (57343 : Int))) = false → (0 : Int) ≤ (0 : Int) ∧ (0 : Int) ≤ (x_1.i + vlu (sbyte (rsT s x_1.p) (0 : Int)) * x_1.w).tmod ((↑p.o.length : Int) + (1 : Int)) ∧ (x_1.i + vlu (sbyte (rsT s x_1.p) (0 : Int)) * x_1.w).tmod ((↑p.o.length : Int) + (1 : Int)) ≤ (↑p.o.length : Int) ∧ (0 : Int) ≤ (x_1.i + vlu (sbyte (rsT s x_1.p) (0 : Int)) * x_1.w).tmod ((↑p.o.length : Int) + (1 : Int)) ∧ (x_1.i + vlu (sbyte (rsT s x_1.p) (0 : Int)) * x_1.w).tmod ((↑p.o.length : Int) + (1 : Int)) ≤ (↑p.o.length : Int) ∧ (↑p.o.length : Int) ≤ (↑p.o.length : Int) ∧ (0 : Nat) + ((x_1.i + vlu (sbyte (rsT s x_1.p) (0 : Int)) * x_1.w).tmod ((↑p.o.length : Int) + (1 : Int))).toNat + ((↑p.o.length : Int) - (x_1.i + vlu (sbyte (rsT s x_1.p) (0 : Int)) * x_1.w).tmod ((↑p.o.length : Int) + (1 : Int))).toNat ≤ p.o.length ∧ ((1 : Nat) + ((↑p.o.length : Int) - (x_1.i + vlu (sbyte (rsT s x_1.p) (0 : Int)) * x_1.w).tmod ((↑p.o.length : Int) + (1 : Int))).toNat) * (4 : Nat) ≤ (140737488355328 : Nat) ∧ (1 : Nat) + ((↑p.o.length : Int) - (x_1.i + vlu (sbyte (rsT s x_1.p) (0 : Int)) * x_1.w).tmod ((↑p.o.length : Int) + (1 : Int))).toNat ≤ (140737488355328 : Nat) ∧ ((x_1.i + vlu (sbyte (rsT s x_1.p) (0 : Int)) * x_1.w).tmod ((↑p.o.length : Int) + (1 : Int)) - (0 : Int)).toNat.le p.o.length ∧ (((x_1.i + vlu (sbyte (rsT s x_1.p) (0 : Int)) * x_1.w).tmod ((↑p.o.length : Int) + (1 : Int)) - (0 : Int)).toNat + ((1 : Nat) + ((↑p.o.length : Int) - (x_1.i + vlu (sbyte (rsT s x_1.p) (0 : Int)) * x_1.w).tmod ((↑p.o.length : Int) + (1 : Int))).toNat)) * (4 : Nat) ≤ (140737488355328 : Nat) ∧ ((x_1.i + vlu (sbyte (rsT s x_1.p) (0 : Int)) * x_1.w).tmod ((↑p.o.length : Int) + (1 : Int)) - (0 : Int)).toNat + ((1 : Nat) + ((↑p.o.length : Int) - (x_1.i + vlu (sbyte (rsT s x_1.p) (0 : Int)) * x_1.w).tmod ((↑p.o.length : Int) + (1 : Int))).toNat) ≤ (140737488355328 : Nat) ∧ in64 ((x_1.i + vlu (sbyte (rsT s x_1.p) (0 : Int)) * x_1.w).tmod ((↑p.o.length : Int) + (1 : Int)) + (1 : Int)) ∧ ∃ (x' : (deI2 s).σ), (DOK s x' ∧ decK s (dcG x'.f (lst s x'.p) x'.n x'.i x'.b x'.o) = decR s) ∧ s.size - x'.p < s.size - x.p ∧ true = true ∧ s = s ∧ XV.sl (0 : Nat) (1 : Nat) (0 : Nat) (((x_1.i + vlu (sbyte (rsT s x_1.p) (0 : Int)) * x_1.w).tmod ((↑p.o.length : Int) + (1 : Int)) - (0 : Int)).toNat + ((1 : Nat) + ((↑p.o.length : Int) - (x_1.i + vlu (sbyte (rsT s x_1.p) (0 : Int)) * x_1.w).tmod ((↑p.o.length : Int) + (1 : Int))).toNat)) = XV.sl (0 : Nat) (1 : Nat) (0 : Nat) x'.o.length ∧ p.n + IntKind.i64.wrap ((x_1.i + vlu (sbyte (rsT s x_1.p) (0 : Int)) * x_1.w).tdiv ((↑p.o.length : Int) + (1 : Int))) = x'.n ∧ (x_1.i + vlu (sbyte (rsT s x_1.p) (0 : Int)) * x_1.w).tmod ((↑p.o.length : Int) + (1 : Int)) + (1 : Int) = x'.i ∧ adp (x_1.i + vlu (sbyte (rsT s x_1.p) (0 : Int)) * x_1.w - p.i) ((↑p.o.length : Int) + (1 : Int)) (p.i == (0 : Int)) = x'.b ∧ (rsT s x_1.p).extract ((1 : Nat)) (↑(rsT s x_1.p).size : Int).toNat = rsT s x'.p ∧ (((21 : TypeId) = (21 : TypeId) ∧ true = true ∧ (1 : Nat) = (1 : Nat)) ∧ ((x_1.i + vlu (sbyte (rsT s x_1.p) (0 : Int)) * x_1.w).tmod ((↑p.o.length : Int) + (1 : Int)) - (0 : Int)).toNat + ((1 : Nat) + ((↑p.o.length : Int) - (x_1.i + vlu (sbyte (rsT s x_1.p) (0 : Int)) * x_1.w).tmod ((↑p.o.length : Int) + (1 : Int))).toNat) = x'.o.length ∧ ∀ (j : Nat), j < ((x_1.i + vlu (sbyte (rsT s x_1.p) (0 : Int)) * x_1.w).tmod ((↑p.o.length : Int) + (1 : Int)) - (0 : Int)).toNat + ((1 : Nat) + ((↑p.o.length : Int) - (x_1.i + vlu (sbyte (rsT s x_1.p) (0 : Int)) * x_1.w).tmod ((↑p.o.length : Int) + (1 : Int))).toNat) → [Bool.rec (Bool.rec (X32 (p.o.getD ((0 : Nat) + ((x_1.i + vlu (sbyte (rsT s x_1.p) (0 : Int)) * x_1.w).tmod ((↑p.o.length : Int) + (1 : Int))).toNat + (j - ((x_1.i + vlu (sbyte (rsT s x_1.p) (0 : Int)) * x_1.w).tmod ((↑p.o.length : Int) + (1 : Int)) - (0 : Int)).toNat - (1 : Nat))) (0 : Int))) (X32 (IntKind.i32.wrap (p.n + IntKind.i64.wrap ((x_1.i + vlu (sbyte (rsT s x_1.p) (0 : Int)) * x_1.w).tdiv ((↑p.o.length : Int) + (1 : Int)))))) ((j - ((x_1.i + vlu (sbyte (rsT s x_1.p) (0 : Int)) * x_1.w).tmod ((↑p.o.length : Int) + (1 : Int)) - (0 : Int)).toNat).blt (1 : Nat))) (X32 (p.o.getD j (0 : Int))) (j.blt ((x_1.i + vlu (sbyte (rsT s x_1.p) (0 : Int)) * x_1.w).tmod ((↑p.o.length : Int) + (1 : Int)) - (0 : Int)).toNat)] = [X32 (x'.o.getD j (0 : Int))]) ∧ True)) ∧ (decide (vlu (sbyte (rsT s x_1.p) (0 : Int)) < thr x_1.k p.b) = false → in64 ((36 : Int) - thr x_1.k p.b) ∧ in64 (x_1.w * ((36 : Int) - thr x_1.k p.b)) ∧ in64 (x_1.k + (36 : Int)) ∧ ∃ (x' : ({ α := DS, J := deI4 s : InvP }.J p).σ), (TOK s p x' ∧ decK s (dcN (p.f - (1 : Nat)) p.n p.i p.o (dnG p.b (lst s x'.p) x'.i x'.w x'.k)) = decR s) ∧ s.size - x'.p < s.size - x_1.p ∧ true = true ∧ s = s ∧ XV.sl (0 : Nat) (1 : Nat) (0 : Nat) p.o.length = XV.sl (0 : Nat) (1 : Nat) (0 : Nat) p.o.length ∧ p.n = p.n ∧ x_1.i + vlu (sbyte (rsT s x_1.p) (0 : Int)) * x_1.w = x'.i ∧ p.b = p.b ∧ (rsT s x_1.p).extract ((1 : Nat)) (↑(rsT s x_1.p).size : Int).toNat = rsT s x'.p ∧ p.i = p.i ∧ x_1.w * ((36 : Int) - thr x_1.k p.b) = x'.w ∧ x_1.k + (36 : Int) = x'.k ∧ (((21 : TypeId) = (21 : TypeId) ∧ true = true ∧ (1 : Nat) = (1 : Nat)) ∧ p.o.length = p.o.length ∧ ∀ (j : Nat), j < p.o.length → [X32 (p.o.getD j (0 : Int))] = [X32 (p.o.getD j (0 : Int))]) ∧ True)))) ∧ ((!decide (rsT s x.p = { data := #[] : ByteArray })) = false → x.o.length = x.o.length ∧ (∀ (i : Nat), i < x.o.length → [X32 (x.o.getD i (0 : Int))] = [X32 (Option.rec (0 : Int) (fun (val : Int) => val) x.o[i]?)]) ∧ x.o.length ≤ (2000 : Nat) ∧ (∀ (i : Nat), i < x.o.length → (0 : Int) ≤ Option.rec (0 : Int) (fun (val : Int) => val) x.o[i]? ∧ Option.rec (0 : Int) (fun (val : Int) => val) x.o[i]? ≤ (1114111 : Int)) ∧ ((!(encR (fun (i : Nat) => Option.rec (0 : Int) (fun (val : Int) => val) x.o[i]?) x.o.length).snd != (0 : Int)) = true → (txtO (encR (fun (i : Nat) => Option.rec (0 : Int) (fun (val : Int) => val) x.o[i]?) x.o.length).fst).size ≤ (1000000 : Nat)) ∧ ((!(encR (fun (i : Nat) => Option.rec (0 : Int) (fun (val : Int) => val) x.o[i]?) x.o.length).snd != (0 : Int)) = true → ascB (txtO (encR (fun (i : Nat) => Option.rec (0 : Int) (fun (val : Int) => val) x.o[i]?) x.o.length).fst)) ∧ ((!(encR (fun (i : Nat) => Option.rec (0 : Int) (fun (val : Int) => val) x.o[i]?) x.o.length).snd != (0 : Int)) = true → ascB s) ∧ (((encR (fun (i : Nat) => Option.rec (0 : Int) (fun (val : Int) => val) x.o[i]?) x.o.length).snd != (0 : Int) || !eqfB (txtO (encR (fun (i : Nat) => Option.rec (0 : Int) (fun (val : Int) => val) x.o[i]?) x.o.length).fst) s) = true → (decR s).fst.length = (0 : Nat) ∧ (3 : Int) = (decR s).snd ∧ True) ∧ (((encR (fun (i : Nat) => Option.rec (0 : Int) (fun (val : Int) => val) x.o[i]?) x.o.length).snd != (0 : Int) || !eqfB (txtO (encR (fun (i : Nat) => Option.rec (0 : Int) (fun (val : Int) => val) x.o[i]?) x.o.length).fst) s) = false → ((1 : Nat) = (1 : Nat) ∧ x.o.length = (decR s).fst.length ∧ ∀ (j : Nat), j < x.o.length → [X32 (x.o.getD j (0 : Int))] = [X32 ((decR s).fst.getD j (0 : Int))]) ∧ (0 : Int) = (decR s).snd ∧ True))))
theorem decV_eq (s : ByteArray) : decV s = (funC cxd Tryd.f35 (mkSc (deE s) (bodyOf Tryd.f35)) [XT s] (.tup [fzL (decR s).1, XI (decR s).2])) := by kernel_rfl
/-! What Encode's round keeps -/
theorem OK2.step {q : Sq Int} {h0 : Int} {n : Int} {s : ES} {f : Nat} (hn : q.n ≤ 2000) (hg : ∀ i, i < q.n → 0 ≤ q.g i ∧ q.g i ≤ 1114111) (hK : OK2 q h0 ⟨n, s, f + 1⟩) (h2 : s.h < q.n) (h3 : ¬ s.o.length > 63) :
    OK2 q h0 ⟨mnr q.g n q.n + 1, { rnd q.g q.n h0 n s with d := (rnd q.g q.n h0 n s).d + 1 }, f⟩ ∧ n ≤ mnr q.g n q.n ∧ mnr q.g n q.n ≤ 1114111 ∧ (∀ j, j < q.n → q.g j < n ∨ mnr q.g n q.n ≤ q.g j) := by
  obtain ⟨⟨n0, n1⟩, kh, ⟨h00, h01⟩, ⟨d0, d1⟩, ⟨b0, b1⟩, ko, kl, ⟨f0, f1⟩⟩ := hK
  dsimp only at n0 n1 kh h00 h01 d0 d1 b0 b1 ko kl f0 f1
  have hcn := clt_rng q.g n q.n
  obtain ⟨m0, m1, m2, m3⟩ := mnr_prop q.g n n1 q.n
  obtain ⟨jx, hj1, hj2⟩ := clt_ex q.g n q.n (by omega)
  have hmn : mnr q.g n q.n ≤ q.g jx := by
    rcases m2 jx hj1 with k | k
    · omega
    · exact k
  have hgx := (hg jx hj1).2
  obtain ⟨jm, hm1, hm2⟩ : ∃ j, j < q.n ∧ q.g j = mnr q.g n q.n := by
    rcases m3 with k | k
    · omega
    · exact k
  have hce := ceq_pos q.g (mnr q.g n q.n) q.n jm hm1 hm2
  have hcr := clt_round q.g n (mnr q.g n q.n) m0 q.n m2
  have hceq := ceq_rng q.g (mnr q.g n q.n) q.n
  have hcm := clt_rng q.g (mnr q.g n q.n + 1) q.n
  have hp0 : 0 ≤ (mnr q.g n q.n - n) * (s.h + 1) := Int.mul_nonneg (by omega) (by omega)
  have hp1 : (mnr q.g n q.n - n) * (s.h + 1) ≤ 1114112 * 2001 := Int.mul_le_mul (by omega) (by omega) (by omega) (by decide)
  have hfn : ((q.n : Int) - (f + 1 : Nat)) * 2300000000 ≤ 2000 * 2300000000 := Int.mul_le_mul (by omega) (Int.le_refl _) (by decide) (by decide)
  obtain ⟨p1, p2, p3, p4, p5, p6, p7⟩ := fol_prop q.g h0 (mnr q.g n q.n) { s with d := s.d + (mnr q.g n q.n - n) * (s.h + 1) } (by show 0 ≤ s.d + _; omega) (by show 0 ≤ s.h; omega) b0 b1 ko q.n (by show s.d + _ + _ ≤ _; omega)
  have ernd : fol q.g h0 (mnr q.g n q.n) { s with d := s.d + (mnr q.g n q.n - n) * (s.h + 1) } q.n = rnd q.g q.n h0 n s := rfl
  rw [ernd] at p1 p2 p3 p4 p5 p6 p7
  dsimp only at p1 p3 p7
  refine ⟨⟨⟨?_, ?_⟩, ?_, ⟨?_, ?_⟩, ⟨?_, ?_⟩, ⟨p4, p5⟩, p6, ?_, ⟨?_, ?_⟩⟩, m0, by omega, m2⟩
  · show 128 ≤ _ + 1; omega
  · show mnr q.g n q.n + 1 ≤ 1114112; omega
  · show (rnd q.g q.n h0 n s).h = clt q.g (mnr q.g n q.n + 1) q.n; omega
  · omega
  · show _ ≤ (rnd q.g q.n h0 n s).h; omega
  · show 0 ≤ (rnd q.g q.n h0 n s).d + 1; omega
  · show (rnd q.g q.n h0 n s).d + 1 ≤ ((q.n : Int) - (f : Int)) * 2300000000; omega
  · show (rnd q.g q.n h0 n s).o.length ≤ 50000; omega
  · show (q.n : Int) - (rnd q.g q.n h0 n s).h ≤ (f : Int); omega
  · show f ≤ q.n; omega
theorem OK2.start {q : Sq Int} (hn : q.n ≤ 2000) (hg : ∀ i, i < q.n → 0 ≤ q.g i ∧ q.g i ≤ 1114111) : OK2 q (eo0 q.g q.n).length ⟨128, ⟨(eo0 q.g q.n).length, 0, 72, eo1 q.g q.n⟩, q.n⟩ := by
  have hok0 := eo0_ok q.g q.n fun j hj => (hg j hj).1
  have hcl := eo0_len q.g q.n
  have hcr := clt_rng q.g 128 q.n
  have hl1 := eo1_len q.g q.n
  exact ⟨⟨Int.le_refl _, by show (128 : Int) ≤ 1114112; decide⟩, by show ((eo0 q.g q.n).length : Int) = _; omega, ⟨by omega, Int.le_refl _⟩, ⟨Int.le_refl _, by show (0 : Int) ≤ ((q.n : Int) - (q.n : Int)) * 2300000000; omega⟩, ⟨by show (0 : Int) ≤ 72; decide, by show (72 : Int) ≤ 400; decide⟩, eo1_ok _ _ hok0, by show (eo1 q.g q.n).length ≤ 50000; omega, ⟨by show (q.n : Int) - ((eo0 q.g q.n).length : Int) ≤ q.n; omega, Nat.le_refl _⟩⟩
theorem encG_ok {q : Sq Int} {h0 : Int} (hn : q.n ≤ 2000) (hg : ∀ i, i < q.n → 0 ≤ q.g i ∧ q.g i ≤ 1114111) : ∀ (f : Nat) (n : Int) (s : ES), OK2 q h0 ⟨n, s, f⟩ → oOK (encG q.g q.n h0 f n s).1 ∧ (encG q.g q.n h0 f n s).1.length ≤ 63 := by
  intro f
  induction f with
  | zero =>
    intro n s hK
    by_cases h3 : s.o.length > 63
    · rw [encG_stop h3]; exact ⟨fun x hx => by simp at hx, by simp⟩
    · have h1 := hK.f.1
      have h2 : ¬ s.h < q.n := by
        have h1 : (q.n : Int) - s.h ≤ (0 : Nat) := h1
        omega
      rw [encG_end h3 h2]; exact ⟨hK.o, by show s.o.length ≤ 63; omega⟩
  | succ f ih =>
    intro n s hK
    by_cases h3 : s.o.length > 63
    · rw [encG_stop h3]; exact ⟨fun x hx => by simp at hx, by simp⟩
    · by_cases h2 : s.h < q.n
      · rw [encG_go h3 h2]
        exact ih _ _ (hK.step hn hg h2 h3).1
      · rw [encG_end h3 h2]; exact ⟨hK.o, by show s.o.length ≤ 63; omega⟩
theorem encR_ok {q : Sq Int} (hn : q.n ≤ 2000) (hg : ∀ i, i < q.n → 0 ≤ q.g i ∧ q.g i ≤ 1114111) : oOK (encR q.g q.n).1 ∧ (encR q.g q.n).1.length ≤ 63 := encG_ok hn hg _ _ _ (OK2.start hn hg)
theorem txtO_data (o : List Int) : (txtO o).data.toList = (List.range o.length).map fun j => UInt8.ofNat (o.getD (0 + j) 0).toNat := rfl
theorem txtO_list (o : List Int) : (txtO o).data.toList = o.map fun x => UInt8.ofNat x.toNat := by
  rw [txtO_data]
  apply List.ext_getElem?
  intro i
  rw [List.getElem?_map, List.getElem?_map]
  by_cases h : i < o.length
  · rw [List.getElem?_range h, List.getElem?_eq_getElem h]
    simp only [Option.map_some, Nat.zero_add]
    rw [List.getD_eq_getElem?_getD, List.getElem?_eq_getElem h]
    rfl
  · rw [List.getElem?_eq_none (by simpa using h), List.getElem?_eq_none (by omega)]
    rfl
theorem txtO_size (o : List Int) : (txtO o).size = o.length := by rw [size_data, txtO_list, List.length_map]
theorem txtO_asc {o : List Int} (h : oOK o) : ascB (txtO o) := by
  intro b hb
  rw [txtO_list] at hb
  obtain ⟨x, hx, rfl⟩ := List.mem_map.1 hb
  have := h x hx
  rw [UInt8.toNat_ofNat']
  omega
/-! Decode's words -/
theorem lst_nil {s : ByteArray} {p : Nat} (h : s.size ≤ p) : lst s p = [] := List.drop_of_length_le (by rw [size_data] at h; exact h)
theorem lst_cons {s : ByteArray} {p : Nat} (h : p < s.size) : ∃ c : UInt8, lst s p = c :: lst s (p + 1) ∧ (c.toNat : Int) = sbyte s p := by
  rw [size_data] at h
  refine ⟨s.data.toList[p], ?_, ?_⟩
  · unfold lst; rw [List.drop_eq_getElem_cons h]
  · unfold sbyte
    rw [Int.toNat_natCast, List.getD_eq_getElem?_getD, List.getElem?_eq_getElem h]
    rfl
theorem rsT_eq (s : ByteArray) (p : Nat) : rsT s p = mk8 (lst s p) := by
  unfold rsT lst mk8
  rw [Lib.extract_eq, List.take_of_length_le (by rw [List.length_drop, size_data]; exact Nat.le_refl _)]
theorem rsT_size (s : ByteArray) (p : Nat) : (rsT s p).size = s.size - p := by
  rw [rsT_eq, mk8_size, lst, List.length_drop, size_data]
theorem rsT_emp (s : ByteArray) (p : Nat) : decide (rsT s p = ⟨#[]⟩) = decide (s.size ≤ p) := by
  rw [emp_iff, rsT_size, decide_eq_decide]
  omega
theorem rsT_byte {s : ByteArray} {p : Nat} (h : p < s.size) : sbyte (rsT s p) 0 = sbyte s p := by
  obtain ⟨c, h1, h2⟩ := lst_cons h
  rw [rsT_eq, h1, ← h2]
  rfl
theorem rsT_next (s : ByteArray) (p : Nat) : (rsT s p).extract 1 (rsT s p).size = rsT s (p + 1) := by
  rw [rsT_eq, rsT_eq, Lib.extract_eq, mk8_data, mk8_size, List.take_of_length_le (by rw [List.length_drop]; exact Nat.le_refl _)]
  show mk8 (List.drop 1 (List.drop p s.data.toList)) = mk8 (List.drop (p + 1) s.data.toList)
  rw [List.drop_drop]
theorem lastB_spec (s : ByteArray) : (lastB s 45 = -1 ∨ (0 ≤ lastB s 45 ∧ lastB s 45 < s.size ∧ sbyte s (lastB s 45) = 45)) := by
  rcases Lib.lastIndexByte_spec s 45 with ⟨h, -⟩ | ⟨i, h1, h2, h3, -⟩
  · exact .inl h
  · right
    have h2 : lastB s 45 = i := h2
    rw [h2]
    refine ⟨by omega, by omega, ?_⟩
    rw [← h3]
    unfold sbyte
    rw [size_data] at h1
    rw [Int.toNat_natCast, List.getD_eq_getElem?_getD, List.getElem?_eq_getElem h1]
    have h1' : i < s.data.size := by simpa using h1
    rw [getElem!_pos s.data i h1']
    rfl
theorem vlu_rng (c : Int) : 0 ≤ vlu c ∧ vlu c ≤ 36 := by
  unfold vlu
  split
  · omega
  · split
    · omega
    · split <;> omega
theorem vlu_asc {c : Int} (h : vlu c ≠ 36) : c < 128 := by
  unfold vlu at h
  split at h
  · omega
  · split at h
    · omega
    · split at h
      · omega
      · exact absurd rfl h
theorem asc_succ {s : ByteArray} {p : Nat} (h : asc s p) (h1 : sbyte s p < 128) : asc s (p + 1) := fun j hj => by
  by_cases e : j = p
  · rw [e]; exact h1
  · exact h j (by omega)
theorem preL_len {s : ByteArray} {m : Nat} (h : m ≤ s.size) : (preL s m).length = m := by
  unfold preL
  rw [List.length_map, List.length_take, ← size_data]
  omega
theorem preL_get {s : ByteArray} {m j : Nat} (h : m ≤ s.size) (hj : j < m) : (preL s m).getD j 0 = sbyte s j := by
  unfold preL sbyte
  rw [size_data] at h
  rw [List.getD_eq_getElem?_getD, List.getElem?_map, List.getElem?_take, if_pos hj, Int.toNat_natCast, List.getD_eq_getElem?_getD, List.getElem?_eq_getElem (by omega)]
  rfl
theorem ins_row (o : List Int) (r : Int) (x : Int) (h0 : 0 ≤ r) (h1 : r ≤ o.length) (j : Nat) (hj : j < (r - 0).toNat + (1 + ((o.length : Int) - r).toNat)) :
    ([Bool.rec (Bool.rec (X32 (o.getD (0 + r.toNat + (j - (r - 0).toNat - 1)) 0)) (X32 x) ((j - (r - 0).toNat).blt 1)) (X32 (o.getD j 0)) (j.blt (r - 0).toNat)] : List XV) = [X32 ((o.take r.toNat ++ x :: o.drop r.toNat).getD j 0)] := by
  obtain ⟨n, rfl⟩ : ∃ n : Nat, r = n := ⟨r.toNat, by omega⟩
  simp only [Int.sub_zero, Int.toNat_natCast, Nat.zero_add] at *
  rw [bltN, bltN, List.getD_eq_getElem?_getD, List.getD_eq_getElem?_getD, List.getD_eq_getElem?_getD]
  have hl : (o.take n).length = n := by rw [List.length_take]; omega
  by_cases e : j < n
  · rw [decide_eq_true e, List.getElem?_append_left (by omega), List.getElem?_take, if_pos e]
  · rw [decide_eq_false e, List.getElem?_append_right (by omega), hl]
    by_cases e1 : j - n < 1
    · rw [decide_eq_true e1, show j - n = 0 by omega]; rfl
    · rw [decide_eq_false e1, show j - n = (j - n - 1) + 1 by omega, List.getElem?_cons_succ, List.getElem?_drop]
      rfl
theorem decR_err {s : ByteArray} (h : decR s = ([], 3)) : (decR s).1.length = 0 ∧ 3 = (decR s).2 ∧ True := by rw [h]; exact ⟨rfl, rfl, trivial⟩
theorem dec_v (s : ByteArray) (hs : s.size ≤ 1000000) : decV s := by
  unfold decV
  refine ⟨fun h => ?_, fun h => ?_⟩
  · have h : (s.size : Int) > 63 := of_decide_eq_true h
    exact decR_err (by rw [decR, if_pos (by omega)])
  have h63 : ¬ s.size > 63 := by have := of_decide_eq_false h; omega
  clear h
  have hat := lastB_spec s
  have hm : imax (lastB s 45) 0 = if 0 > lastB s 45 then 0 else lastB s 45 := rfl
  have hm0 : 0 ≤ imax (lastB s 45) 0 := by rw [hm]; split <;> omega
  refine ⟨hs, ⟨⟨0⟩, ⟨hm0, fun j hj => absurd hj (Nat.not_lt_zero _)⟩, rfl, rfl, rfl, rfl, rfl, rfl, ⟨⟨rfl, rfl, rfl⟩, rfl, fun j hj => absurd hj (Nat.not_lt_zero _)⟩, trivial⟩, ?_⟩
  rintro ⟨i⟩ ⟨hi, ha⟩
  have hi : (i : Int) ≤ imax (lastB s 45) 0 := hi
  have ha : asc s i := ha
  refine ⟨fun h => ?_, fun h => ?_⟩
  · have h : (i : Int) < imax (lastB s 45) 0 := of_decide_eq_true h
    have hia : (i : Int) < lastB s 45 := by rw [hm] at h; split at h <;> omega
    dsimp only
    refine ⟨by omega, by omega, fun hb => ?_, fun hb => ?_⟩
    · have hb : sbyte s (i : Int) ≥ 128 := of_decide_eq_true hb
      exact decR_err (by rw [decR, if_neg h63, if_pos ⟨i, by omega, hb⟩])
    · have hb : ¬ sbyte s (i : Int) ≥ 128 := of_decide_eq_false hb
      have hbr := sb_rng s (i : Int)
      refine ⟨by omega, by omega, Nat.le_refl _, by omega, by omega, by unfold in64; omega, ⟨i + 1⟩, ⟨by show ((i + 1 : Nat) : Int) ≤ _; omega, asc_succ ha (by omega)⟩, by show s.size - (i + 1) < s.size - i; omega, rfl, rfl, rfl, rfl, rfl, rfl, ⟨⟨rfl, rfl, rfl⟩, rfl, fun j hj => ?_⟩, trivial⟩
      rw [w32 (by omega) (by omega), bltN]
      by_cases e : j < i
      · rw [decide_eq_true e]
      · rw [decide_eq_false e, show j = i by omega]
  have h : ¬ (i : Int) < imax (lastB s 45) 0 := of_decide_eq_false h
  have him : (imax (lastB s 45) 0).toNat = i := by omega
  have hat1 : -1 ≤ lastB s 45 ∧ lastB s 45 < s.size := by omega
  have hip : i ≤ (lastB s 45 + 1).toNat := by rw [← him, hm]; split <;> omega
  have hap : asc s (lastB s 45 + 1).toNat := fun j hj => by
    by_cases e : j < i
    · exact ha j e
    · have : imax (lastB s 45) 0 = lastB s 45 := by rw [hm, if_neg]; omega
      have ej : (j : Int) = lastB s 45 := by omega
      rw [ej]
      rcases hat with k | ⟨_, _, k⟩ <;> omega
  have hpl : (preL s i).length = i := preL_len (by omega)
  have hR : decK s (dcG (s.size + 1) (lst s (lastB s 45 + 1).toNat) 128 0 72 (preL s i)) = decR s := by
    rw [decR, if_neg h63, if_neg, him]
    rintro ⟨j, h1, h2⟩
    have := ha j (by omega)
    omega
  dsimp only
  refine ⟨by unfold in64; omega, by omega, by omega, by omega, ⟨⟨(lastB s 45 + 1).toNat, 128, 0, 72, preL s i, s.size + 1⟩, ⟨⟨by show (lastB s 45 + 1).toNat ≤ s.size; omega, by show s.size < (lastB s 45 + 1).toNat + (s.size + 1); omega, by show (preL s i).length ≤ (lastB s 45 + 1).toNat; omega, ⟨Int.le_refl _, by show (0 : Int) ≤ ((preL s i).length : Int); omega⟩, ⟨Int.le_refl _, by show (128 : Int) ≤ 1114111; decide⟩, ⟨by show (0 : Int) ≤ 72; decide, by show (72 : Int) ≤ 400; decide⟩, hap, fun y hy => ?_⟩, hR⟩, rfl, rfl, by rw [hpl], rfl, rfl, rfl, rfl, ⟨⟨rfl, rfl, rfl⟩, by rw [hpl], fun j hj => by rw [preL_get (by omega) hj]⟩, trivial⟩, ?_⟩
  · unfold preL at hy
    obtain ⟨c, -, rfl⟩ := List.mem_map.1 hy
    have := UInt8.toNat_lt c
    omega
  clear hR hap hip him h ha hi hpl
  rintro ⟨p, n, i1, b, o, f⟩ ⟨hK, hG⟩
  obtain ⟨k1, k2, k3, ⟨i0, i2⟩, ⟨n0, n1⟩, ⟨b0, b1⟩, ka, ko⟩ := hK
  dsimp only at k1 k2 k3 i0 i2 n0 n1 b0 b1 ka ko hG
  dsimp only
  rw [rsT_emp]
  refine ⟨fun h => ?_, fun h => ?_⟩
  · have hp : p < s.size := by
      have h : ¬ s.size ≤ p := by simpa using h
      omega
    clear h
    obtain ⟨c0, e0, -⟩ := lst_cons hp
    obtain ⟨f, rfl⟩ : ∃ f', f = f' + 1 := ⟨f - 1, by omega⟩
    rw [e0, dcG_cons, ← e0] at hG
    refine ⟨⟨p, n, i1, b, o, f + 1⟩, ⟨⟨p, i1, 1, 36⟩, ⟨⟨⟨Nat.le_refl _, k1⟩, ⟨Int.le_refl _, by show i1 ≤ 2566911744; omega⟩, ⟨Int.le_refl _, by show (1 : Int) ≤ 2495608640; decide⟩, ⟨Int.le_refl _, by show (36 : Int) + 36 * (p : Int) ≤ 36 + 36 * (p : Int); omega⟩, ka⟩, hG⟩, rfl, rfl, rfl, rfl, rfl, rfl, rfl, rfl, rfl, rfl, ⟨⟨rfl, rfl, rfl⟩, rfl, fun j hj => rfl⟩, trivial⟩, ?_⟩
    clear hG e0
    rintro ⟨p1, i3, w, k⟩ ⟨hT, hG⟩
    obtain ⟨⟨t1, t2⟩, ⟨t3, t4⟩, ⟨t5, t6⟩, ⟨t7, t8⟩, ta⟩ := hT
    dsimp only at t1 t2 t3 t4 t5 t6 t7 t8 ta hG
    rw [show f + 1 - 1 = f from rfl] at hG
    dsimp only
    rw [rsT_emp]
    refine ⟨fun h => ?_, fun h => ?_⟩
    · have h : s.size ≤ p1 := of_decide_eq_true h
      rw [lst_nil h] at hG
      exact decR_err hG.symm
    have hp1 : p1 < s.size := by have := of_decide_eq_false h; omega
    clear h
    obtain ⟨c, e1, e2⟩ := lst_cons hp1
    rw [rsT_byte hp1, rsT_size]
    have hbr := sb_rng s (p1 : Int)
    have hv := vlu_rng (sbyte s (p1 : Int))
    rw [e1, dnG, e2] at hG
    refine ⟨Int.le_refl _, by omega, by decide, by omega, Int.le_refl _, fun h => ?_, fun h => ?_⟩
    · rw [if_pos] at hG
      · exact decR_err hG.symm
      · simpa [or_assoc] using h
    have hno : ¬ (vlu (sbyte s (p1 : Int)) = 36 ∨ i3 > 71303104 ∨ w > 71303104) := by
      intro hx
      have : (vlu (sbyte s (p1 : Int)) == 36 || decide (i3 > 71303104) || decide (w > 71303104)) = true := by simpa [or_assoc] using hx
      rw [this] at h; cases h
    clear h
    rw [if_neg hno] at hG
    have hv36 : vlu (sbyte s (p1 : Int)) ≠ 36 := fun hx => hno (.inl hx)
    have hca := vlu_asc hv36
    have hm1 : 0 ≤ vlu (sbyte s (p1 : Int)) * w := Int.mul_nonneg hv.1 (by omega)
    have hm2 : vlu (sbyte s (p1 : Int)) * w ≤ 35 * 71303104 := Int.mul_le_mul (by omega) (by omega) (by omega) (by decide)
    have ht := thr_rng k b
    have hap := asc_succ ta hca
    generalize vlu (sbyte s (p1 : Int)) = v at *
    refine ⟨by unfold in64; omega, by unfold in64; omega, by unfold in64; omega, fun h => ?_, fun h => ?_⟩
    · have h : v < thr k b := of_decide_eq_true h
      rw [if_pos h, dcN] at hG
      generalize hj : i3 + v * w = j at *
      have hj0 : 0 ≤ j := by omega
      have hq1 : 0 ≤ j / ((o.length : Int) + 1) := Int.ediv_nonneg hj0 (by omega)
      have hq2 : j / ((o.length : Int) + 1) ≤ j := Int.ediv_le_self _ hj0
      have hr1 : 0 ≤ j % ((o.length : Int) + 1) := Int.emod_nonneg _ (by omega)
      have hr2 : j % ((o.length : Int) + 1) < (o.length : Int) + 1 := Int.emod_lt_of_pos _ (by omega)
      have hw := wdiv (a := j) (b := (o.length : Int) + 1) hj0 (by omega) (by omega)
      have hmd : j.tmod ((o.length : Int) + 1) = j % ((o.length : Int) + 1) := Int.tmod_eq_emod_of_nonneg hj0
      rw [hw, hmd]
      have hb := adp_rng (j - i1) ((o.length : Int) + 1) (i1 == 0) (by omega) (by omega) (by omega)
      generalize hn' : n + j / ((o.length : Int) + 1) = n' at *
      generalize hr : j % ((o.length : Int) + 1) = r at *
      refine ⟨by unfold in64; omega, by unfold in64; omega, by omega, by omega, by omega, by omega, by unfold in64; omega, by omega, fun h => h, fun h => h, fun h => h, fun h => by rw [h]; rfl, fun h => ?_, fun h => ?_⟩
      · rw [if_pos] at hG
        · exact decR_err hG.symm
        · unfold badR; simpa using h
      have hnb : ¬ badR n' := by
        intro hx
        unfold badR at hx
        have : (decide (n' > 1114111) || decide (n' ≥ 55296) && decide (n' ≤ 57343)) = true := by simpa using hx
        rw [this] at h; cases h
      clear h
      rw [if_neg hnb] at hG
      have hn2 : n' ≤ 1114111 := Int.not_lt.1 fun hx => hnb (.inl hx)
      have hl2 : (o.take r.toNat ++ n' :: o.drop r.toNat).length = o.length + 1 := by
        rw [List.length_append, List.length_take, List.length_cons, List.length_drop]; omega
      refine ⟨by decide, hr1, by omega, hr1, by omega, by omega, by omega, by omega, by omega, by show (r - 0).toNat ≤ o.length; omega, by omega, by omega, by unfold in64; omega,
        ⟨p1 + 1, n', r + 1, adp (j - i1) ((o.length : Int) + 1) (i1 == 0), o.take r.toNat ++ n' :: o.drop r.toNat, f⟩, ⟨⟨by show p1 + 1 ≤ s.size; omega, by show s.size < p1 + 1 + f; omega, by show (o.take r.toNat ++ n' :: o.drop r.toNat).length ≤ p1 + 1; omega, ⟨by show 0 ≤ r + 1; omega, by show r + 1 ≤ ((o.take r.toNat ++ n' :: o.drop r.toNat).length : Int); omega⟩, ⟨by show 128 ≤ n'; omega, hn2⟩, hb, hap, fun y hy => ?_⟩, hG⟩, by show s.size - (p1 + 1) < s.size - p; omega, rfl, rfl, ?_, rfl, rfl, rfl, ?_, ⟨⟨rfl, rfl, rfl⟩, ?_, fun j hj => ?_⟩, trivial⟩
      · rcases List.mem_append.1 hy with k | k
        · exact ko y (List.mem_of_mem_take k)
        · rcases List.mem_cons.1 k with rfl | k
          · omega
          · exact ko y (List.mem_of_mem_drop k)
      · show XV.sl 0 1 0 _ = XV.sl 0 1 0 (o.take r.toNat ++ n' :: o.drop r.toNat).length
        rw [hl2]
        congr 1
        omega
      · have := rsT_next s p1
        rw [rsT_size] at this
        exact this
      · show _ = (o.take r.toNat ++ n' :: o.drop r.toNat).length
        rw [hl2]
        omega
      · rw [w32 (by omega) (by omega)]
        exact ins_row o r n' hr1 (by omega) j hj
    · have h : ¬ v < thr k b := of_decide_eq_false h
      rw [if_neg h] at hG
      generalize thr k b = t at *
      have hw1 : 1 ≤ w * (36 - t) := by
        have : w * 1 ≤ w * (36 - t) := Int.mul_le_mul_of_nonneg_left (by omega) (by omega)
        omega
      have hw2 : w * (36 - t) ≤ 71303104 * 35 := Int.mul_le_mul (by omega) (by omega) (by omega) (by decide)
      refine ⟨by unfold in64; omega, by unfold in64; omega, by unfold in64; omega, ⟨p1 + 1, i3 + v * w, w * (36 - t), k + 36⟩, ⟨⟨⟨by show p ≤ p1 + 1; omega, by show p1 + 1 ≤ s.size; omega⟩, ⟨by show i1 ≤ i3 + v * w; omega, by show i3 + v * w ≤ 2566911744; omega⟩, ⟨hw1, by show w * (36 - t) ≤ 2495608640; omega⟩, ⟨by show 36 ≤ k + 36; omega, by show k + 36 + 36 * (p : Int) ≤ 36 + 36 * ((p1 + 1 : Nat) : Int); omega⟩, hap⟩, hG⟩, by show s.size - (p1 + 1) < s.size - p1; omega, rfl, rfl, rfl, rfl, rfl, rfl, ?_, rfl, rfl, rfl, ⟨⟨rfl, rfl, rfl⟩, rfl, fun j hj => rfl⟩, trivial⟩
      have := rsT_next s p1
      rw [rsT_size] at this
      exact this
  · have hp : s.size ≤ p := by simpa using h
    clear h
    have hA : (fun i : Nat => Option.rec (motive := fun _ => Int) 0 (fun v => v) o[i]?) = fun j => o.getD j 0 := by
      funext j; exact (getD_rec o j).symm
    have hnil : lst s p = [] := lst_nil hp
    have hd : dcG f [] n i1 b o = some o := by cases f <;> rfl
    rw [hnil, hd] at hG
    have hg : ∀ i, i < o.length → 0 ≤ o.getD i 0 ∧ o.getD i 0 ≤ 1114111 := fun i hi => by
      rw [List.getD_eq_getElem?_getD, List.getElem?_eq_getElem hi]
      exact ko _ (List.getElem_mem hi)
    obtain ⟨q1, q2⟩ := encR_ok (q := ⟨o.length, fun j => o.getD j 0⟩) (by show o.length ≤ 2000; omega) hg
    dsimp only at q1 q2
    rw [hA]
    have hsa : ascB s := by
      intro b hb
      obtain ⟨j, hj, rfl⟩ := List.getElem_of_mem hb
      have := ka j (by rw [size_data] at hp; omega)
      unfold sbyte at this
      rw [Int.toNat_natCast, List.getD_eq_getElem?_getD, List.getElem?_eq_getElem hj] at this
      simp only [Option.getD_some] at this
      omega
    refine ⟨rfl, fun i hi => congrArg (fun z => [X32 z]) (getD_rec o i), by omega, fun i hi => ?_, fun _ => by rw [txtO_size]; omega, fun _ => txtO_asc q1, fun _ => hsa, fun h => ?_, fun h => ?_⟩
    · have := hg i hi
      rw [getD_rec] at this
      exact this
    · rw [decK, if_pos] at hG
      · exact decR_err hG.symm
      · simpa using h
    · rw [decK, if_neg] at hG
      · rw [← hG]; exact ⟨⟨rfl, rfl, fun j _ => rfl⟩, rfl, trivial⟩
      · simpa using h
def decC : CT := C1 dStr (fun s => [s.size ≤ 1000000]) fun s => .tup [fzL (decR s).1, XI (decR s).2]
theorem cxd_ok : cxd.ok Tryd.prog := (((((((cx0_ok.addC eqf_ok).addC last_ok).addC adp_ok).addC thr_ok).addC vlu_ok).addC enc_ok)).setK true
theorem dec_ok : CTok Tryd.prog 35 decC := C1_ok cxd_ok Tryd.func35 rfl (by decide) dStr_eq.ok (by kernel_rfl) (fun _ => rfl) fun s hc => exv (decV_eq s) (dec_v s (hc _ (by simp)))
end Go.Proofs.YthomfpdigmeheaaDoorAv
