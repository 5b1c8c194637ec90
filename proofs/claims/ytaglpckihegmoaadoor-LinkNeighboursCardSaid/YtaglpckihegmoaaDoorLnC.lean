/- Own texts, put together. -/
import Derived.Test.YtaglpckihegmoaaDoorLnB
import Derived.WalkKit
import Derived.Deep.LoopGhost
import Derived.Laws.OwnMore
import Derived.Laws.CopyRow
import Derived.Lib.ConvBytes
import Derived.Below
import Derived.KernelRfl
import Derived.Scope
import Derived.Laws.BytesString
import Derived.DataElems
import Derived.Laws.Tables
import Derived.Laws.Cells
import Derived.OrdersIn
import Derived.Laws.StructEq
import Derived.Laws.RangeString
import Derived.Maps.RangeRun
import Derived.BigQuiet
import Derived.Test.YtaglpckihegmoaaDoorProg
import Derived.Shelf.Small.Wraps
import Derived.Shelf.Utf8.RuneCount
import Derived.Shelf.Strings.Search1
import Derived.Shelf.Strings.Search2
import Derived.Shelf.Strings.Search3
import Derived.Shelf.Strings.Count
import Derived.Shelf.LaysM
import Derived.Shelf.Strings.Shaped
import Derived.Shelf.Strings.LastIndex
import Derived.Shelf.Strings.Prefix
import Derived.Shelf.Strings.Split
import Derived.Shelf.Strings.Fold
import Derived.Shelf.Unicode.Decode
import Derived.Shelf.Strings.RuneCount
import Derived.Shelf.Unicode.DecodeSlow
import Derived.Shelf.Unicode.DecodeAny
import Derived.Shelf.Unicode.ValidAny
import Derived.Shelf.Unicode.CaseLookup
import Derived.Shelf.Unicode.CaseConvert
import Derived.OpenShut
import Derived.SliceStrings
import Derived.ChangeSlices
import Derived.SizedLaws
import Derived.Carry
import Derived.Lib.LaidTab
import Derived.Shelf.Vars
import Derived.WideKeyArr2
import Derived.Lay
import Derived.Deep.DeepHandedRow
import Derived.Test.YtaglpckihegmoaaDoorRows
import Derived.Lib.LaidU8T
import Derived.DataReads
set_option linter.unusedVariables false
set_option linter.unusedSimpArgs false
set_option maxRecDepth 100000
namespace Go.Proofs.YtaglpckihegmoaaDoorAv
open Go Go.RowKit
theorem Rel.put {F : Fr} {ρ : Rho} {S : XS} {t : TM} {L : GH} (h : Rel F ρ S t L) (d : Option Nat) {v : XV} {b : AV} (hv : RV ρ v b) : Rel F ρ (S.put d v) (t.putO d b) L := by
 cases d with
 | none => exact h
 | some d =>
  refine ⟨fun i => ?_, h.rw, h.inj, h.nx, h.fr, h.pin, h.gh⟩
  simp only [XS.put, TM.putO, TM.put]
  rw [look_put]
  split
  ·exact hv
  ·exact h.sl i
theorem RR.some_g {ρ : Rho} {L : GH} {id g : Nat} {r : XRow} (h : RR ρ L id r) (hg : ρ id = some (some g)) : ∃ row, L g = some row ∧ RRow ρ r row := by
 rcases h with ⟨g', row, h1, h2, h3⟩ | ⟨h1, _⟩
 ·rw [hg] at h1
  obtain rfl := Option.some.inj (Option.some.inj h1)
  exact ⟨row, h2, h3⟩
 ·rw [hg] at h1; cases h1
theorem Rel.wr {F : Fr} {ρ : Rho} {S : XS} {t : TM} {L : GH} (h : Rel F ρ S t L) {id g : Nat} {r : XRow} {row : Row} (hid : (findR S.h id).isSome = true) (hg : ρ id = some (some g)) (hr : RRow ρ r row) (h1 : ∀ e ap cs, findR S.h id = some (.one e ap cs) → ∃ e' ap' cs', r = .one e' ap' cs') : Rel F ρ (S.wr (some (id, r))) t (upd L g row) := by
 have hdom : ∀ i, (findR ((id, r) :: delR S.h id) i).isSome = (findR S.h i).isSome := by
  intro i
  rw [findR_put, findR_del]
  by_cases hi : i = id
  ·rw [if_pos hi, hi, hid]; rfl
  ·rw [if_neg hi, if_neg hi]
 refine ⟨h.sl, fun i q hq => ?_, fun i j g' hi hj => ?_, h.nx, fun b q hb => ?_, fun hp => ?_, h.gh⟩
 ·simp only [XS.wr] at hq
  rw [findR_put, findR_del] at hq
  by_cases hi : i = id
  ·rw [if_pos hi] at hq
   obtain rfl := Option.some.inj hq
   subst hi
   exact .inl ⟨g, row, hg, upd_same _ _ _, hr⟩
  ·rw [if_neg hi, if_neg hi] at hq
   rcases h.rw i q hq with ⟨g', row', h1, h2, h3⟩ | h1
   ·refine .inl ⟨g', row', h1, ?_, h3⟩
    rw [upd_ne]
    ·exact h2
    ·rintro rfl
     exact hi (h.inj i id _ (by rw [hq]; rfl) hid h1 hg)
   ·exact .inr h1
 ·simp only [XS.wr] at hi hj
  rw [hdom] at hi hj
  exact h.inj i j g' hi hj
 ·obtain ⟨h1, h2⟩ := h.fr b q hb
  refine ⟨?_, fun i hi => ?_⟩
  ·rw [upd_ne]
   ·exact h1
   ·rintro rfl
    exact h2 id hid hg
  ·simp only [XS.wr] at hi
   rw [hdom] at hi
   exact h2 i hi
 ·obtain ⟨p1, p2, e, ap, cs, p3⟩ := h.pin hp
  refine ⟨p1, p2, ?_⟩
  simp only [XS.wr]
  rw [findR_put, findR_del]
  by_cases h0 : 0 = id
  ·rw [if_pos h0]
   subst h0
   obtain ⟨e', ap', cs', rfl⟩ := h1 e ap cs p3
   exact ⟨e', ap', cs', rfl⟩
  ·rw [if_neg h0, if_neg h0]
   exact ⟨e, ap, cs, p3⟩
def Rho.set (ρ : Rho) (id : Nat) (o : Option Nat) : Rho := fun i => if i = id then some o else ρ i
mutual
theorem RV.set {ρ : Rho} {id : Nat} {o : Option Nat} : ∀ (x : XV) (b : AV), x.has id = false → RV ρ x b → RV (ρ.set id o) x b
 | .v a, b, _, k => by simpa [RV] using k
 | .sl i sz off n, b, hh, k => by
  simp only [XV.has, beqN, decide_eq_false_iff_not] at hh
  simp only [RV] at k ⊢
  have e : (ρ.set id o) i = ρ i := by unfold Rho.set; rw [if_neg hh]
  rw [e]; exact k
 | .ptr i sz j q, b, hh, k => by
  simp only [XV.has, beqN, decide_eq_false_iff_not] at hh
  simp only [RV] at k ⊢
  have e : (ρ.set id o) i = ρ i := by unfold Rho.set; rw [if_neg hh]
  rw [e]; exact k
 | .fz n sz f, b, _, k => by simpa [RV] using k
 | .fzc n sz f, b, _, k => by simpa [RV] using k
 | .fp cs, b, _, k => by simpa [RV] using k
 | .fsel cs j, b, _, k => by simpa [RV] using k
 | .agg cs, b, hh, k => by
  simp only [XV.has] at hh
  simp only [RV] at k ⊢
  obtain ⟨bs, hb, hr⟩ := k
  exact ⟨bs, hb, RVL.set cs bs hh hr⟩
 | .tup cs, b, hh, k => by
  simp only [XV.has] at hh
  simp only [RV] at k ⊢
  obtain ⟨bs, hb, hr⟩ := k
  exact ⟨bs, hb, RVL.set cs bs hh hr⟩
 | .gd c key x, b, hh, k => by
  simp only [XV.has] at hh
  simp only [RV] at k ⊢
  exact ⟨fun hc => RV.set x b hh (k.1 hc), k.2⟩
 | .mref i, b, hh, k => by
  simp only [XV.has, beqN, decide_eq_false_iff_not] at hh
  simp only [RV] at k ⊢
  have e : (ρ.set id o) i = ρ i := by unfold Rho.set; rw [if_neg hh]
  rw [e]; exact k
 | .clo f i, b, hh, k => by
  simp only [XV.has, beqN, decide_eq_false_iff_not] at hh
  simp only [RV] at k ⊢
  have e : (ρ.set id o) i = ρ i := by unfold Rho.set; rw [if_neg hh]
  rw [e]; exact k
 | .top, b, _, _ => by simp [RV]
theorem RVL.set {ρ : Rho} {id : Nat} {o : Option Nat} : ∀ (cs : List XV) (bs : List AV), XV.has.hasL id cs = false → RVL ρ cs bs → RVL (ρ.set id o) cs bs
 | [], [], _, _ => by simp [RVL]
 | c :: cs, b :: bs, hh, k => by
  simp only [XV.has.hasL, Bool.or_eq_false_iff] at hh
  simp only [RVL] at k ⊢
  exact ⟨RV.set c b hh.1 k.1, RVL.set cs bs hh.2 k.2⟩
 | [], _ :: _, _, k => by simp [RVL] at k
 | _ :: _, [], _, k => by simp [RVL] at k
end
theorem look_drop (id : Nat) : ∀ (s : List (Nat × XV)) (i : Nat), look (dropS id s) i = bif (look s i).has id then .top else look s i
 | [], i => by simp [dropS, look, XV.has]
 | (d, v) :: s, i => by
  simp only [dropS]
  cases hv : v.has id with
  | true =>
   rw [cond_true, look_put, look_put, look_drop id s i]
   split
   ·rw [hv]; rfl
   ·rfl
  | false =>
   rw [cond_false, look_put, look_put, look_drop id s i]
   split
   ·rw [hv]; rfl
   ·rfl
theorem RV.drop {ρ : Rho} {id : Nat} {o : Option Nat} {x : XV} {b : AV} (k : RV ρ x b) : RV (ρ.set id o) (bif x.has id then .top else x) b := by
 cases h : x.has id with
 | true => simp [RV]
 | false => exact RV.set x b h k
theorem dropC_ok {ρ : Rho} {id : Nat} {o : Option Nat} : ∀ {cs : List XV} {bs : List AV}, RVL ρ cs bs → RVL (ρ.set id o) (dropC id cs) bs
 | [], [], _ => by simp [dropC, RVL]
 | c :: cs, b :: bs, k => by
  simp only [RVL] at k
  simp only [dropC, RVL]
  exact ⟨RV.drop k.1, dropC_ok k.2⟩
 | [], _ :: _, k => by simp [RVL] at k
 | _ :: _, [], k => by simp [RVL] at k
def dropRow (id : Nat) : XRow → XRow
 | .one e ap cs => .one e ap (dropC id cs)
 | .vec e ap n sz f => .vec e ap n sz f
 | .vecU e ap n sz i cs f => .vecU e ap n sz i cs f
 | .it s p => .it s p
 | .mp l => .mp l
 | .mit l k c => .mit l k c
theorem findR_drop (id : Nat) : ∀ (s : List (Nat × XRow)) (i : Nat), findR (dropH id s) i = (findR s i).map (dropRow id)
 | [], i => by simp [dropH, findR]
 | (d, .one e ap cs) :: s, i => by
  simp only [dropH]
  rw [findR_put, findR_put, findR_drop id s i]
  split <;> rfl
 | (d, .vec e ap n sz f) :: s, i => by
  simp only [dropH]
  rw [findR_put, findR_put, findR_drop id s i]
  split <;> rfl
 | (d, .vecU e ap n sz k cs f) :: s, i => by
  simp only [dropH]
  rw [findR_put, findR_put, findR_drop id s i]
  split <;> rfl
 | (d, .it b p) :: s, i => by
  simp only [dropH]
  rw [findR_put, findR_put, findR_drop id s i]
  split <;> rfl
 | (d, .mp l) :: s, i => by
  simp only [dropH]
  rw [findR_put, findR_put, findR_drop id s i]
  split <;> rfl
 | (d, .mit l k c) :: s, i => by
  simp only [dropH]
  rw [findR_put, findR_put, findR_drop id s i]
  split <;> rfl
theorem RRow.drop {ρ : Rho} {id : Nat} {o : Option Nat} {r : XRow} {row : Row} (k : RRow ρ r row) : RRow (ρ.set id o) (dropRow id r) row := by
 cases r with
 | one e ap cs => simp only [RRow, dropRow] at k ⊢; exact ⟨k.1, k.2.1, dropC_ok k.2.2⟩
 | vec e ap n sz f => simpa [RRow, dropRow] using k
 | vecU e ap n sz i cs f => simpa [RRow, dropRow] using k
 | it s p => simpa [RRow, dropRow] using k
 | mp l => simpa [RRow, dropRow] using k
 | mit l n c => simpa [RRow, dropRow] using k
theorem set_mono {ρ : Rho} {id : Nat} {o : Option Nat} (h : ρ id = none) : ∀ i q, ρ i = some q → (ρ.set id o) i = some q := by
 intro i q hq
 unfold Rho.set
 rw [if_neg]
 ·exact hq
 ·rintro rfl; rw [h] at hq; cases hq
theorem set_same (ρ : Rho) (id : Nat) (o : Option Nat) : (ρ.set id o) id = some o := by simp [Rho.set]
theorem set_ne (ρ : Rho) {id i : Nat} (o : Option Nat) (h : i ≠ id) : (ρ.set id o) i = ρ i := by simp [Rho.set, h]
theorem pin_new {ρ ρ' : Rho} {h : List (Nat × XRow)} {n g : Nat} {r : XRow} (hm : ∀ i q, ρ i = some q → ρ' i = some q) (hp : ρ 0 = some (some g) ∧ 0 < n ∧ ∃ e ap cs, findR h 0 = some (.one e ap cs)) :
  ρ' 0 = some (some g) ∧ 0 < n + 1 ∧ ∃ e ap cs, findR ((n, r) :: h) 0 = some (.one e ap cs) := by
 obtain ⟨p1, p2, e, ap, cs, p3⟩ := hp
 refine ⟨hm _ _ p1, by omega, e, ap, cs, ?_⟩
 rw [findR_put, if_neg (by omega)]
 exact p3
theorem Rel.gone {F : Fr} {ρ : Rho} {S : XS} {t : TM} {L : GH} (h : Rel F ρ S t L) {id g : Nat} {r : XRow} (hid : findR S.h id = some r) (hg : ρ id = some (some g)) (h1 : ∀ e ap cs, r ≠ .one e ap cs) : Rel F ρ { S with h := delR S.h id } t (del L g) := by
 have key : ∀ i, (findR (delR S.h id) i).isSome = true → i ≠ id ∧ (findR S.h i).isSome = true := fun i hi => by
  rw [findR_del] at hi
  by_cases e : i = id
  ·rw [if_pos e] at hi; cases hi
  ·rw [if_neg e] at hi; exact ⟨e, hi⟩
 refine ⟨h.sl, fun i q hq => ?_, fun i j g' hi hj => h.inj i j g' (key i hi).2 (key j hj).2, h.nx, fun b q hb => ?_, fun hp => ?_, h.gh⟩
 ·simp only at hq
  rw [findR_del] at hq
  by_cases e : i = id
  ·rw [if_pos e] at hq; cases hq
  ·rw [if_neg e] at hq
   rcases h.rw i q hq with ⟨g', row, a1, a2, a3⟩ | ⟨a1, a2⟩
   ·refine .inl ⟨g', row, a1, ?_, a3⟩
    have hne : g' ≠ g := by
     rintro rfl
     exact e (h.inj i id _ (by rw [hq]; rfl) (by rw [hid]; rfl) a1 hg)
    simp only [del, if_neg hne]
    exact a2
   ·exact .inr ⟨a1, a2⟩
 ·obtain ⟨b1, b2⟩ := h.fr b q hb
  have hne : b ≠ g := by
   rintro rfl
   exact b2 id (by rw [hid]; rfl) hg
  refine ⟨by simp only [del, if_neg hne]; exact b1, fun i hi => b2 i (key i hi).2⟩
 ·obtain ⟨p1, p2, e, ap, cs, p3⟩ := h.pin hp
  refine ⟨p1, p2, e, ap, cs, ?_⟩
  show findR (delR S.h id) 0 = _
  rw [findR_del]
  by_cases e0 : 0 = id
  ·rw [← e0, p3] at hid
   exact absurd (Option.some.inj hid).symm (h1 e ap cs)
  ·rw [if_neg e0]; exact p3
theorem Rel.new {F : Fr} {ρ : Rho} {S : XS} {t : TM} {L : GH} (h : Rel F ρ S t L) {g : Nat} {r : XRow} {row : Row} (hg : L g = none) (hr : RRow (ρ.set S.nx (some g)) r row) :
  Rel F (ρ.set S.nx (some g)) { S with h := (S.nx, r) :: S.h, nx := S.nx + 1 } t (upd L g row) := by
 have hnx := h.nx S.nx (Nat.le_refl _)
 have hm := set_mono (o := some g) hnx
 have fresh : ∀ i, (findR S.h i).isSome = true → i ≠ S.nx ∧ ρ i ≠ some (some g) := by
  intro i hi
  cases hq : findR S.h i with
  | none => rw [hq] at hi; cases hi
  | some q =>
   rcases h.rw i q hq with ⟨g', row', h1, h2, _⟩ | ⟨h1, _⟩
   ·refine ⟨by (rintro rfl; rw [hnx] at h1; cases h1), ?_⟩
    intro h3
    rw [h1] at h3
    obtain rfl := Option.some.inj (Option.some.inj h3)
    rw [hg] at h2; cases h2
   ·exact ⟨by (rintro rfl; rw [hnx] at h1; cases h1), by rw [h1]; simp⟩
 refine ⟨fun i => RV.mono hm _ _ (h.sl i), fun i q hq => ?_, fun i j g' hi hj e1 e2 => ?_, fun i hi => ?_, fun b q hb => ?_, fun hp => pin_new hm (h.pin hp), RVL.mono hm _ _ h.gh⟩
 ·simp only at hq
  rw [findR_put] at hq
  by_cases hi : i = S.nx
  ·rw [if_pos hi] at hq
   obtain rfl := Option.some.inj hq
   subst hi
   exact .inl ⟨g, row, set_same _ _ _, upd_same _ _ _, hr⟩
  ·rw [if_neg hi] at hq
   rcases h.rw i q hq with ⟨g', row', h1, h2, h3⟩ | ⟨h1, h2⟩
   ·refine .inl ⟨g', row', hm _ _ h1, ?_, h3.mono hm⟩
    rw [upd_ne]
    ·exact h2
    ·rintro rfl; rw [hg] at h2; cases h2
   ·exact .inr ⟨hm _ _ h1, h2⟩
 ·simp only at hi hj
  rw [findR_put] at hi hj
  by_cases a1 : i = S.nx
  ·by_cases a2 : j = S.nx
   ·rw [a1, a2]
   ·rw [if_neg a2] at hj
    rw [a1, set_same] at e1
    obtain rfl := Option.some.inj (Option.some.inj e1)
    rw [set_ne _ _ a2] at e2
    exact absurd e2 (fresh j hj).2
  ·rw [if_neg a1] at hi
   rw [set_ne _ _ a1] at e1
   by_cases a2 : j = S.nx
   ·rw [a2, set_same] at e2
    obtain rfl := Option.some.inj (Option.some.inj e2)
    exact absurd e1 (fresh i hi).2
   ·rw [if_neg a2] at hj
    rw [set_ne _ _ a2] at e2
    exact h.inj i j g' hi hj e1 e2
 ·simp only at hi
  rw [set_ne _ _ (by omega)]
  exact h.nx i (by omega)
 ·obtain ⟨h1, h2⟩ := h.fr b q hb
  refine ⟨?_, fun i hi => ?_⟩
  ·rw [upd_ne]
   ·exact h1
   ·rintro rfl; rw [hg] at h1; cases h1
  ·simp only at hi
   rw [findR_put] at hi
   by_cases a1 : i = S.nx
   ·rw [a1, set_same]
    intro h3
    obtain rfl := Option.some.inj (Option.some.inj h3)
    rw [hg] at h1; cases h1
   ·rw [if_neg a1] at hi
    rw [set_ne _ _ a1]
    exact h2 i hi
theorem Rel.renew {F : Fr} {ρ : Rho} {S : XS} {t : TM} {L0 : GH} {og og' : Option Nat} {id : Nat} {r0 : Row} {q0 r : XRow} {row : Row} (h : Rel F ρ S t (updo L0 og r0)) (hF : Fre L0 og) (hq : findR S.h id = some q0) (hid : ρ id = some og) (hF' : Fre L0 og') (hvec : ∀ e ap cs, q0 ≠ .one e ap cs)
  (hr : (∃ g, og' = some g ∧ RRow (ρ.set id og') r row) ∨ (og' = none ∧ ∃ e sz f, r = .vec e true 0 sz f)) :
  Rel F (ρ.set id og') { S with s := dropS id S.s, h := (id, r) :: dropH id (delR S.h id), gs := dropC id S.gs } t (updo L0 og' row) := by
 have hlt : id < S.nx := by
  rcases Nat.lt_or_ge id S.nx with hl | hl
  ·exact hl
  ·rw [h.nx id hl] at hid; cases hid
 have old : ∀ i g row', i ≠ id → (findR S.h i).isSome = true → ρ i = some (some g) → updo L0 og r0 g = some row' → L0 g = some row' := by
  intro i g row' hi hs e1 e2
  cases og with
  | none => exact e2
  | some g0 =>
   have hne : g ≠ g0 := by
    rintro rfl
    exact hi (h.inj i id _ hs (by rw [hq]; rfl) e1 hid)
   simpa [updo, upd_ne _ _ _ _ hne] using e2
 have new : ∀ g row', L0 g = some row' → updo L0 og' row g = some row' := by
  intro g row' e
  cases og' with
  | none => exact e
  | some g1 =>
   have hne : g ≠ g1 := by rintro rfl; rw [hF' g rfl] at e; cases e
   simpa [updo, upd_ne _ _ _ _ hne] using e
 have fi : ∀ i, findR ((id, r) :: dropH id (delR S.h id)) i = if i = id then some r else (findR S.h i).map (dropRow id) := by
  intro i
  rw [findR_put, findR_drop, findR_del]
  by_cases hi : i = id
  ·rw [if_pos hi, if_pos hi]
  ·rw [if_neg hi, if_neg hi, if_neg hi]
 have gone : ∀ i g, i ≠ id → (findR S.h i).isSome = true → ρ i = some (some g) → ∃ row', L0 g = some row' := by
  intro i g hi hs e1
  cases hq' : findR S.h i with
  | none => rw [hq'] at hs; cases hs
  | some q =>
   obtain ⟨row', h2, _⟩ := (h.rw i q hq').some_g e1
   exact ⟨row', old i g row' hi hs e1 h2⟩
 refine ⟨fun i => by show RV _ (look (dropS id S.s) i) _; rw [look_drop]; exact RV.drop (h.sl i), fun i q hq' => ?_, fun i j g' hi hj e1 e2 => ?_, fun i hi => ?_, fun b q hb => ?_, fun hp => ?_, dropC_ok h.gh⟩
 ·simp only at hq'
  rw [fi] at hq'
  by_cases hi : i = id
  ·rw [if_pos hi] at hq'
   obtain rfl := Option.some.inj hq'
   subst hi
   rcases hr with ⟨g, rfl, hr⟩ | ⟨rfl, hr⟩
   ·exact .inl ⟨g, row, set_same _ _ _, upd_same _ _ _, hr⟩
   ·exact .inr ⟨set_same _ _ _, hr⟩
  ·rw [if_neg hi] at hq'
   cases hq2 : findR S.h i with
   | none => rw [hq2] at hq'; cases hq'
   | some p =>
    rw [hq2] at hq'
    obtain rfl := Option.some.inj hq'
    rcases h.rw i p hq2 with ⟨g', row', h1, h2, h3⟩ | ⟨h1, e, sz, f, rfl⟩
    ·exact .inl ⟨g', row', by rw [set_ne _ _ hi]; exact h1, new _ _ (old i g' row' hi (by rw [hq2]; rfl) h1 h2), h3.drop⟩
    ·exact .inr ⟨by rw [set_ne _ _ hi]; exact h1, e, sz, f, rfl⟩
 ·simp only at hi hj
  rw [fi] at hi hj
  have ss : ∀ k, k ≠ id → ((if k = id then some r else (findR S.h k).map (dropRow id)) : Option XRow).isSome = true → (findR S.h k).isSome = true := by
   intro k hk hs
   rw [if_neg hk] at hs
   simpa using hs
  by_cases a1 : i = id
  ·by_cases a2 : j = id
   ·rw [a1, a2]
   ·rw [a1, set_same] at e1
    rw [set_ne _ _ a2] at e2
    obtain ⟨row', h3⟩ := gone j g' a2 (ss j a2 hj) e2
    obtain rfl := Option.some.inj e1
    rw [hF' g' rfl] at h3; cases h3
  ·by_cases a2 : j = id
   ·rw [a2, set_same] at e2
    rw [set_ne _ _ a1] at e1
    obtain ⟨row', h3⟩ := gone i g' a1 (ss i a1 hi) e1
    obtain rfl := Option.some.inj e2
    rw [hF' g' rfl] at h3; cases h3
   ·rw [set_ne _ _ a1] at e1
    rw [set_ne _ _ a2] at e2
    exact h.inj i j g' (ss i a1 hi) (ss j a2 hj) e1 e2
 ·simp only at hi
  rw [set_ne _ _ (by omega)]
  exact h.nx i hi
 ·obtain ⟨h1, h2⟩ := h.fr b q hb
  have h3 : L0 b = some q := by
   cases og with
   | none => exact h1
   | some g0 =>
    have hne : b ≠ g0 := by rintro rfl; exact h2 id (by rw [hq]; rfl) hid
    simpa [updo, upd_ne _ _ _ _ hne] using h1
  refine ⟨new _ _ h3, fun i hi => ?_⟩
  simp only at hi
  rw [fi] at hi
  by_cases a1 : i = id
  ·rw [a1, set_same]
   intro h4
   obtain rfl := Option.some.inj h4
   rw [hF' b rfl] at h3; cases h3
  ·rw [if_neg a1] at hi
   rw [set_ne _ _ a1]
   exact h2 i (by simpa using hi)
 ·obtain ⟨p1, p2, e, ap, cs, p3⟩ := h.pin hp
  have hne : 0 ≠ id := by
   rintro rfl
   rw [hq] at p3
   exact hvec e ap cs (Option.some.inj p3)
  refine ⟨by rw [set_ne _ _ hne]; exact p1, p2, e, ap, dropC id cs, ?_⟩
  show findR ((id, r) :: dropH id (delR S.h id)) 0 = _
  rw [fi, if_neg hne, p3]
  rfl
end Go.Proofs.YtaglpckihegmoaaDoorAv
namespace Go.Proofs.YtaglpckihegmoaaDoorAv
open Go Go.RowKit
theorem Rel.newN {F : Fr} {ρ : Rho} {S : XS} {t : TM} {L : GH} (h : Rel F ρ S t L) (e : TypeId) (sz : Nat) (f : Nat → List XV) :
  Rel F (ρ.set S.nx none) { S with h := (S.nx, .vec e true 0 sz f) :: S.h, nx := S.nx + 1 } t L := by
 have hnx := h.nx S.nx (Nat.le_refl _)
 have hm := set_mono (o := none) hnx
 refine ⟨fun i => RV.mono hm _ _ (h.sl i), fun i q hq => ?_, fun i j g' hi hj e1 e2 => ?_, fun i hi => ?_, fun b q hb => ?_, fun hp => pin_new hm (h.pin hp), RVL.mono hm _ _ h.gh⟩
 ·simp only at hq
  rw [findR_put] at hq
  by_cases hi : i = S.nx
  ·rw [if_pos hi] at hq
   obtain rfl := Option.some.inj hq
   subst hi
   exact .inr ⟨set_same _ _ _, e, sz, f, rfl⟩
  ·rw [if_neg hi] at hq
   rcases h.rw i q hq with ⟨g', row', h1, h2, h3⟩ | ⟨h1, h2⟩
   ·exact .inl ⟨g', row', hm _ _ h1, h2, h3.mono hm⟩
   ·exact .inr ⟨hm _ _ h1, h2⟩
 ·simp only at hi hj
  rw [findR_put] at hi hj
  have ni : i ≠ S.nx := by rintro rfl; rw [set_same] at e1; cases e1
  have nj : j ≠ S.nx := by rintro rfl; rw [set_same] at e2; cases e2
  rw [if_neg ni] at hi
  rw [if_neg nj] at hj
  rw [set_ne _ _ ni] at e1
  rw [set_ne _ _ nj] at e2
  exact h.inj i j g' hi hj e1 e2
 ·simp only at hi
  rw [set_ne _ _ (by omega)]
  exact h.nx i (by omega)
 ·obtain ⟨h1, h2⟩ := h.fr b q hb
  refine ⟨h1, fun i hi => ?_⟩
  simp only at hi
  rw [findR_put] at hi
  by_cases a1 : i = S.nx
  ·rw [a1, set_same]; simp
  ·rw [if_neg a1] at hi
   rw [set_ne _ _ a1]
   exact h2 i hi
theorem rep_vec {sz : Nat} {l : List Value} (hl : l.length = sz) : ∀ n, (repV n l).map AV.p = vecOf n sz fun _ => toAVL (l.map fun v => XV.v (.p v))
 | 0 => by simp [repV, vecOf]
 | n + 1 => by
  have e1 : toAVL (l.map fun v => XV.v (.p v)) = l.map AV.p := by
   rw [toAVL_map, List.map_map]; rfl
  have h1 : vecOf 1 sz (fun _ => toAVL (l.map fun v => XV.v (.p v))) = l.map AV.p := by
   rw [vecOf_one (g := fun _ => toAVL (l.map fun v => XV.v (.p v))) (by rw [e1]; simpa using hl), e1]
  rw [repV, List.map_append, rep_vec hl n, ← h1, vecOf_app, Nat.add_comm]
  apply vecOf_congr
  intro j hj
  cases Nat.blt j 1 <;> rfl
section
variable {P : Program} {N : Nat} {ops : Array Oper} {Q : Exit → TM → GH → Prop} {d : Option Nat} {ty : TypeId} {pos : String} {af : Array Edge} {op : Op} {ρ : Rho} {F : Fr} {S S' : XS} {t : TM} {L : GH} {v : XV} {os : List Oper}
theorem gxs_av : ∀ vs : List GV, toAVL (gxs vs) = vs.map GV.av
 | [] => rfl
 | .val v :: l => by simp only [gxs, toAVL, toAV, List.map_cons, GV.av, gxs_av l]
 | .int k :: l => by simp only [gxs, toAVL, toAV, List.map_cons, GV.av, gxs_av l]
 | .ifc :: l => by simp only [gxs, toAVL, toAV, List.map_cons, GV.av, gxs_av l]
theorem xev_ok (hR : Rel F ρ S t L) (x : Operand) : RV ρ (xev S.s x) (ev t x) := by
 cases x with
 | tmp n => exact hR.sl n
 | const v => simp [xev, RV, ev]
 | global g =>
  show RV ρ (match gfind glbT g with | some vs => .fp (gxs vs) | none => .top) (match gfind glbT g with | some vs => .fp (vs.map GV.av) | none => .top)
  cases gfind glbT g with
  | none => simp [RV]
  | some vs => simp only [RV]; exact ⟨[], by rw [gxs_av, List.append_nil]⟩
 | func f => simp [xev, RV, ev]
theorem st_none {G : List (Nat × Bool)} {y : XV} {b : AV} (h : RV ρ y b) (hc : ∀ p ∈ (y.st G none).1, p) : RV ρ (y.st G none).2 b := by
 cases y with
 | gd c k x =>
  simp only [RV] at h
  simp only [XV.st, sameK] at hc ⊢
  exact h.1 (all1 hc)
 | _ => exact h
theorem bytes_vec (b : ByteArray) : bytesAV b = vecOf b.size 1 fun j => toAVL [.v (.p (.int .u8 (sbyte b j)))] := by
 apply List.ext_getElem?
 intro c
 have hl : (bytesAV b).length = b.size := by
  have e : b.data.toList.length = b.size := by rw [Array.length_toList]; rfl
  simp only [bytesAV, List.length_map]
  exact e
 rcases Nat.lt_or_ge c b.size with h | h
 ·have := vecOf_get (n := b.size) (sz := 1) (g := fun j => toAVL [.v (.p (.int .u8 (sbyte b j)))]) (i := c) (o := 0) h (by omega)
  rw [Nat.mul_one, Nat.add_zero] at this
  rw [this]
  simp only [bytesAV, List.getElem?_map]
  have hd : c < b.data.toList.length := by rw [Array.length_toList]; exact h
  rw [List.getElem?_eq_getElem hd]
  simp only [Option.map_some, toAVL, toAV, byteAV, sbyte, Int.toNat_natCast]
  rw [List.getD_eq_getElem?_getD, List.getD_eq_getElem?_getD, List.getElem?_eq_getElem hd]
  rfl
 ·rw [List.getElem?_eq_none (by omega), List.getElem?_eq_none (by rw [vecOf_length]; omega)]
theorem JO.retell0 {L L' : GH} (hd : ∀ b, L b = none → L' b = none)
  (hv : ∀ w, (∀ g r, L g = some r → RowR L w g r) → ∀ g r, L' g = some r → RowR L' w g r) (h : JO P N ops Q os t L') : JO P N ops Q os t L := by
 intro ro L0 w0 a w he hs
 have hx := Ext.drop w hd
 exact h ro L0 w0 a w (he.trans hx) ⟨fun i => VS.ext hx _ _ (hs.tm i), hv w hs.rows, hs.size, hs.df.1, hs.df.2.ext hx⟩
theorem vecOf_take {n n' sz : Nat} {g : Nat → List AV} (h : n ≤ n') : vecOf n sz g = (vecOf n' sz g).take (n * sz) := by
 unfold vecOf
 rw [← List.map_take, List.take_range, Nat.min_eq_left (Nat.mul_le_mul_right _ h)]
theorem JO.shorter {L0 : GH} {og : Option Nat} {e : TypeId} {cs cs' : List AV} {k : Nat} (hF : Fre L0 og) (hk : cs' = cs.take k) (h : JO P N ops Q os t (updo L0 og ⟨e, true, cs'⟩)) : JO P N ops Q os t (updo L0 og ⟨e, true, cs⟩) := by
 subst hk
 refine JO.retell0 (fun b hb => ?_) (fun w hr => ?_) h
 ·cases og with
  | none => exact hb
  | some g =>
   obtain ⟨h1, h2⟩ := updo_none hb
   show upd L0 g _ b = none
   rw [upd_ne _ _ _ _ (h1 g rfl)]
   exact h2
 ·intro g r hg
  have hx : Ext (updo L0 og ⟨e, true, cs⟩) w (updo L0 og ⟨e, true, cs.take k⟩) w := Ext.drop w fun b hb => by
   cases og with
   | none => exact hb
   | some g =>
    obtain ⟨h1, h2⟩ := updo_none hb
    show upd L0 g _ b = none
    rw [upd_ne _ _ _ _ (h1 g rfl)]
    exact h2
  cases og with
  | none => exact hr g r hg
  | some g0 =>
   have hg' : upd L0 g0 ⟨e, true, cs.take k⟩ g = some r := hg
   by_cases hgg : g = g0
   ·subst hgg
    rw [upd_same] at hg'
    obtain rfl := Option.some.inj hg'
    obtain ⟨c, fr, vs, q1, q2, q3, q4, q5, q6, q7⟩ := hr g ⟨e, true, cs⟩ (by show upd L0 g _ g = _; rw [upd_same])
    refine ⟨c, fr, vs.take k, q1, q2, q3, ?_, ?_, VSL.ext hx _ _ (VSL.take k q6), fun v hv => q7 v (List.mem_of_mem_take hv)⟩
    ·have q4 : cs.length ≤ c.size := q4
     show (cs.take k).length ≤ c.size
     rw [List.length_take]; omega
    ·have q5 : vs = c.toList.take cs.length := q5
     show vs.take k = c.toList.take (cs.take k).length
     rw [q5, List.take_take, List.length_take]
   ·rw [upd_ne _ _ _ _ hgg] at hg'
    exact (hr g r (by show upd L0 g0 _ g = some r; rw [upd_ne _ _ _ _ hgg]; exact hg')).ext hx rfl
theorem xnew0_ok {X : Cx} (hX : X.ok P) {cs : List Prop} (hn : xnew0 X S op = some (cs, v, S')) (hc : ∀ p ∈ cs, p) (hR : Rel F ρ S t L) (hd : dok N d = true)
  (K : ∀ ρ' t' L', Rel F ρ' (S'.put d v) t' L' → JO P N ops Q os t' L') : JO P N ops Q (⟨d, op, ty, pos, af, none⟩ :: os) t L := by
 cases op with
 | alloc T =>
  simp only [xnew0] at hn
  split at hn
  ·rename_i u z z1 z2 hu hi
   split at hn
   ·rename_i h3
    simp only [Option.some.injEq, Prod.mk.injEq] at hn
    obtain ⟨rfl, rfl, rfl⟩ := hn
    refine R.alloc (okI_fnd hX.I hi) rfl (RVL.ones h3 (zcells_ok ρ z)) hd fun g hg => ?_
    refine K (ρ.set S.nx (some g)) _ _ (Rel.put (Rel.new hR hg ?_) d ?_)
    ·simp only [RRow]; exact ⟨trivial, trivial, zcells_ok _ z⟩
    ·simp only [RV]; exact ⟨g, set_same _ _ _, by simp⟩
   ·cases hn
  ·cases hn
 | box T x =>
  simp only [xnew0] at hn
  split at hn
  ·rename_i h1
   simp only [Option.some.injEq, Prod.mk.injEq] at hn
   obtain ⟨rfl, rfl, rfl⟩ := hn
   obtain ⟨k1, k2⟩ := RV.cells h1 (st_none (xev_ok hR x) hc)
   refine JO.box rfl k2 hd fun g hg => ?_
   refine K (ρ.set S.nx (some g)) _ _ (Rel.put (Rel.new hR hg ?_) d ?_)
   ·simp only [RRow]; exact ⟨trivial, trivial, RVL.mono (set_mono (hR.nx _ (Nat.le_refl _))) _ _ k1⟩
   ·simp only [RV]; exact ⟨g, set_same _ _ _, by simp⟩
  ·cases hn
 | makeSlice T x y =>
  simp only [xnew0] at hn
  split at hn
  ·rename_i k l k' c e hx hy ht
   split at hn
   ·rename_i z sz b hi
    split at hn
    ·rename_i s' h2 h1
     split at hn
     ·simp only [Option.some.injEq, Prod.mk.injEq] at hn
      obtain ⟨rfl, rfl, rfl⟩ := hn
      have v1 := st_none (xev_ok hR x) (allL hc)
      have v2 := st_none (xev_ok hR y) (allL (allR hc))
      rw [hx] at v1
      rw [hy] at v2
      simp only [RV] at v1 v2
      have hcs := allR (allR hc)
      have c1 : 0 ≤ l := hcs _ (by simp)
      have c2 : l ≤ c := hcs _ (by simp)
      have c3 : c.toNat * b ≤ 140737488355328 := hcs _ (by simp)
      have c4 : c ≤ 140737488355328 := hcs _ (by simp)
      rw [beqN, decide_eq_true_eq] at h1
      have hrep : ∀ n, repl n z.cells.toList = repV n z.cells.toList := by
       intro n
       induction n with
       | zero => rfl
       | succ n ih => rw [repl, repV, ih]
      have hlen : ((repl l.toNat z.cells.toList).map AV.p).length = l.toNat * (s' + 1) := by rw [hrep, rep_vec h1, vecOf_length]
      refine JO.makeSlice (okU_fnd hX.U ht) (okI_fnd hX.I hi) (by simpa using h1) v1 v2 c1 c2 c3 c4 (by omega) (RVL.ones h2 (zcells_ok ρ z)) hd fun g hg => ?_
      have hK := K ρ _ _ (Rel.put hR d (b := .fz l.toNat ((repl l.toNat z.cells.toList).map AV.p)) (by simp only [RV]; rw [hrep, rep_vec h1]; rfl))
      cases d with
      | none => exact JO.retell0 (fun b hb => (updo_none (og := some g) hb).2) (fun w hr g' r' hg' => (hr g' r' (by rw [upd_ne]; exact hg'; rintro rfl; rw [hg] at hg'; cases hg')).ext (Ext.drop w fun b hb => (updo_none (og := some g) hb).2) rfl) hK
      | some s =>
       refine JO.freeze (og := some g) (r := ⟨_, true, (repl l.toNat z.cells.toList).map AV.p⟩) s (fun g' hg' => by obtain rfl := Option.some.inj hg'; exact hg) (by simp [TM.putO, TM.put, hv]) (fun h => by cases h) hlen ?_
       have e : (t.putO (some s) (.sl g (s' + 1) 0 l.toNat)).put s (.fz l.toNat ((repl l.toNat z.cells.toList).map AV.p)) = t.putO (some s) (.fz l.toNat ((repl l.toNat z.cells.toList).map AV.p)) := by
        funext i
        simp only [TM.putO, TM.put]
        split <;> rfl
       rw [e]
       exact hK
     ·simp only [Option.some.injEq, Prod.mk.injEq] at hn
      obtain ⟨rfl, rfl, rfl⟩ := hn
      have v1 := st_none (xev_ok hR x) (allL hc)
      have v2 := st_none (xev_ok hR y) (allL (allR hc))
      rw [hx] at v1
      rw [hy] at v2
      simp only [RV] at v1 v2
      have hcs := allR (allR hc)
      have c1 : 0 ≤ l := hcs _ (by simp)
      have c2 : l ≤ c := hcs _ (by simp)
      have c3 : c.toNat * b ≤ 140737488355328 := hcs _ (by simp)
      have c4 : c ≤ 140737488355328 := hcs _ (by simp)
      rw [beqN, decide_eq_true_eq] at h1
      have hrep : ∀ n, repl n z.cells.toList = repV n z.cells.toList := by
       intro n
       induction n with
       | zero => rfl
       | succ n ih => rw [repl, repV, ih]
      refine JO.makeSlice (okU_fnd hX.U ht) (okI_fnd hX.I hi) (by simpa using h1) v1 v2 c1 c2 c3 c4 (by omega) (RVL.ones h2 (zcells_ok ρ z)) hd fun g hg => ?_
      refine K (ρ.set S.nx (some g)) _ _ (Rel.put (Rel.new hR hg ?_) d ?_)
      ·simp only [RRow]; rw [hrep, rep_vec h1]; rfl
      ·simp only [RV]; exact .inl ⟨g, set_same _ _ _, by simp⟩
    ·cases hn
   ·cases hn
  ·cases hn
 | convert Sx T x =>
  simp only [xnew0] at hn
  split at hn
  ·rename_i e b hs ht hx
   split at hn
   ·rename_i he
    simp only [Option.some.injEq, Prod.mk.injEq] at hn
    obtain ⟨rfl, rfl, rfl⟩ := hn
    have h1 := st_none (xev_ok hR x) hc
    rw [hx] at h1
    simp only [RV] at h1
    refine JO.toBytes (okU_fnd hX.U hs) (okU_fnd hX.U ht) (okU_fnd hX.U he) h1 hd fun g hg => ?_
    refine K (ρ.set S.nx (some g)) _ _ (Rel.put (Rel.new hR hg ?_) d ?_)
    ·simp only [RRow]; rw [bytes_vec]
    ·simp only [RV]; exact .inl ⟨g, set_same _ _ _, by simp⟩
   ·cases hn
  ·cases hn
 | call c =>
  obtain ⟨ce, ar, at'⟩ := c
  cases ce with
  | value y0 =>
   cases y0 with
   | func f =>
    simp only [xnew0] at hn
    split at hn
    ·rename_i T M hM
     split at hn
     ·rename_i cs' cells hm
      split at hn
      ·rename_i h1
       simp only [Option.some.injEq, Prod.mk.injEq] at hn
       obtain ⟨rfl, rfl, rfl⟩ := hn
       obtain ⟨⟨fn, co, f1, f2, f3⟩, f4⟩ := hX.N f T M hM
       have hargs := xargs_ok ρ (ev t) ar.toList (fun x _ hc => st_none (xev_ok hR x) hc) (allL hc)
       obtain ⟨ds, k1, k2⟩ := f4 _ _ _ hm (allR hc) ρ _ hargs
       have := JO.call (P := P) (N := N) (ops := ops) (Q := Q) (d := d) (ty := ty) (pos := pos) (af := af) (os := os) (t := t) (L := L) (xs := ar.toList) (tys := at') f1 f2 f3 hd (k2 L) (by
        rintro r L' ⟨g, hg, rfl, rfl⟩
        refine K (ρ.set S.nx (some g)) _ _ (Rel.put (Rel.new hR hg ?_) d ?_)
        ·simp only [RRow]; exact ⟨trivial, trivial, RVL.mono (set_mono (hR.nx _ (Nat.le_refl _))) _ _ k1⟩
        ·simp only [RV]; exact ⟨g, set_same _ _ _, by simp⟩)
       simpa using this
      ·cases hn
     ·cases hn
    ·cases hn
   | _ => simp [xnew0] at hn
  | invoke a b => simp [xnew0] at hn
  | builtin bi =>
  simp only [xnew0] at hn
  split at hn
  ·rename_i x y T T' hcc hca hct
   injection hcc with hcc
   subst hcc
   have h1 : ar = #[x, y] := by rw [← Array.toArray_toList (xs := ar), hca]
   have h2 : at' = #[T, T'] := by rw [← Array.toArray_toList (xs := at'), hct]
   subst h1 h2
   split at hn
   ·rename_i e hTT hu
    rw [beqN, decide_eq_true_eq] at hTT
    subst hTT
    split at hn
    ·rename_i z sz b hi
     obtain ⟨ti, k1, k2, k3, k4⟩ := (okI_fnd hX.I hi).get
     split at hn
     ·rename_i m g s' hsr hzl
      rw [beqN, decide_eq_true_eq] at hzl
      have hzz : z.cells.size = s' + 1 := by simpa using hzl
      have e2 : ∀ {l1 l2 : List Prop}, cs = l1 ++ (((xev S.s y).st [] none).1 ++ l2) → RV ρ ((xev S.s y).st [] none).2 (ev t y) := fun h => st_none (xev_ok hR y) (by rw [h] at hc; exact allL (allR hc))
      split at hn
      ·rename_i hx
       simp only [Option.some.injEq, Prod.mk.injEq] at hn
       obtain ⟨rfl, rfl, rfl⟩ := hn
       have e1 := st_none (xev_ok hR x) (allL hc)
       have hb1 : m * b ≤ 140737488355328 := all1 (allR (allR hc))
       have hb2 : m ≤ 140737488355328 := all2 (allR (allR hc))
       rw [hx] at e1
       simp only [RV] at e1
       refine JO.append' (L0 := L) (og := none) (cs := []) (n := 0) (m := m) (ys := vecOf m (s' + 1) fun i => toAVL (g i)) (okU_fnd hX.U hu) k1 k2 k3 hzz (fun g h => by cases h) e1 (fun _ => ⟨rfl, rfl⟩) (by simp) (xsrc_ok hsr (e2 rfl) _) (vecOf_length _ _ _) (by rw [Nat.zero_add, k4]; exact hb1) (by omega) (Nat.succ_pos _) hd fun og' hF hnil => ?_
       rw [List.nil_append, Nat.zero_add]
       cases og' with
       | some g' =>
        refine K (ρ.set S.nx (some g')) _ _ (Rel.put (Rel.new hR (hF g' rfl) ?_) d ?_)
        ·simp only [RRow]
        ·simp only [RV]; exact .inl ⟨g', set_same _ _ _, by simp [hv]⟩
       | none =>
        have hm0 : m = 0 := by have := (hnil rfl).2; omega
        subst hm0
        refine K (ρ.set S.nx none) _ _ (Rel.put (Rel.newN hR e (s' + 1) g) d ?_)
        simp only [RV]
        exact .inr ⟨set_same _ _ _, trivial, trivial, rfl⟩
      ·rename_i id s n hx
       split at hn
       ·rename_i e' n' s2 f hq
        split at hn
        ·rename_i q1 q2 q3
         simp only [zipC_eq, Option.some.injEq, Prod.mk.injEq] at hn
         obtain ⟨rfl, rfl, rfl⟩ := hn
         rw [beqN, decide_eq_true_eq] at q1 q2 q3
         subst q1 q2 q3
         have e1 := st_none (xev_ok hR x) (allL hc)
         have hc3 := allR (allR hc)
         have hnn : n ≤ n' := by
          have := all1 hc3
          split at this
          ·exact this
          ·exact Nat.le_of_eq this.symm
         have hb1 : (n + m) * b ≤ 140737488355328 := all2 hc3
         have hb2 : n + m ≤ 140737488355328 := all3 hc3
         rw [hx] at e1
         simp only [RV] at e1
         have go : ∀ (L0 : GH) (og : Option Nat), L = updo L0 og ⟨e, true, vecOf n' (s' + 1) fun i => toAVL (f i)⟩ → Fre L0 og → ρ id = some og → ev t x = hv og (s' + 1) n → (og = none → n = 0) →
           JO P N ops Q (⟨d, .call { callee := .builtin .append, args := #[x, y], argTypes := #[T, T] }, ty, pos, af, none⟩ :: os) t L := by
          intro L0 og hL hF hid hxe hnil
          subst hL
          refine JO.shorter hF (vecOf_take hnn) ?_
          refine JO.append' (L0 := L0) (og := og) (cs := vecOf n (s' + 1) fun i => toAVL (f i)) (n := n) (m := m) (ys := vecOf m (s' + 1) fun i => toAVL (g i)) (okU_fnd hX.U hu) k1 k2 k3 hzz hF hxe (fun h => ⟨by rw [hnil h]; simp [vecOf], hnil h⟩) (vecOf_length _ _ _) (xsrc_ok hsr (e2 rfl) _) (vecOf_length _ _ _)
           (by rw [k4]; exact hb1) hb2 (Nat.succ_pos _) hd fun og' hF' hnil' => ?_
          have hR2 := Rel.renew (r := .vec e true (n + m) (s' + 1) fun j => bif Nat.blt j n then f j else g (j - n)) (row := ⟨e, true, (vecOf n (s' + 1) fun i => toAVL (f i)) ++ vecOf m (s' + 1) fun i => toAVL (g i)⟩) hR hF hq hid hF' (by intro e ap cs h; cases h) (by
           cases og' with
           | some g' =>
            refine .inl ⟨g', rfl, ?_⟩
            simp only [RRow]
            rw [vecOf_app]
            congr 1
            apply vecOf_congr
            intro j _
            cases Nat.blt j n <;> rfl
           | none =>
            have : n + m = 0 := (hnil' rfl).2
            exact .inr ⟨rfl, e, s' + 1, _, by rw [this]⟩)
          refine K _ _ _ (Rel.put hR2 d ?_)
          simp only [RV]
          cases og' with
          | some g' => exact .inl ⟨g', set_same _ _ _, by simp [hv]⟩
          | none => exact .inr ⟨set_same _ _ _, (hnil' rfl).2, trivial, rfl⟩
         rcases e1 with ⟨g0, hid, hxe⟩ | ⟨hid, hn0, -, hxe⟩
         ·obtain ⟨row, hL, hrow⟩ := (hR.rw id _ hq).some_g hid
          simp only [RRow] at hrow
          subst hrow
          refine go (del L g0) (some g0) ?_ (fun g' h => by obtain rfl := Option.some.inj h; simp [del]) hid (by rw [hxe]; simp [hv]) (fun h => by cases h)
          funext b'
          simp only [updo, upd, del]
          split
          ·rename_i hb'; rw [hb', hL]
          ·rfl
         ·exact go L none rfl (fun g' h => by cases h) hid (by rw [hxe]; rfl) (fun _ => hn0)
        ·cases hn
       ·cases hn
      ·rename_i n s f hx
       split at hn
       ·rename_i q1
        simp only [zipC_eq, Option.some.injEq, Prod.mk.injEq] at hn
        obtain ⟨rfl, rfl, rfl⟩ := hn
        rw [beqN, decide_eq_true_eq] at q1
        subst q1
        have e1 := st_none (xev_ok hR x) (allL hc)
        have hb1 : (n + m) * b ≤ 140737488355328 := all1 (allR (allR hc))
        have hb2 : n + m ≤ 140737488355328 := all2 (allR (allR hc))
        rw [hx] at e1
        simp only [RV] at e1
        refine JO.appendC (L := L) (n := n) (m := m) (cs := vecOf n (s' + 1) fun i => toAVL (f i)) (ys := vecOf m (s' + 1) fun i => toAVL (g i)) (okU_fnd hX.U hu) k1 k2 k3 hzz (.inl e1) (vecOf_length _ _ _) (xsrc_ok hsr (e2 rfl) _) (vecOf_length _ _ _) (by rw [k4]; exact hb1) hb2 (Nat.succ_pos _) hd ?_
        refine K ρ _ _ (Rel.put hR d ?_)
        simp only [RV, toAV]
        rw [vecOf_app]
        congr 1
        apply vecOf_congr
        intro j _
        cases Nat.blt j n <;> rfl
       ·cases hn
      ·cases hn
     ·cases hn
    ·cases hn
   ·cases hn
  ·cases hn
 | _ => simp [xnew0] at hn
theorem xnew_ok {X : Cx} (hX : X.ok P) {cs : List Prop} (hn : xnew X S op = some (cs, v, S')) (hc : ∀ p ∈ cs, p) (hR : Rel F ρ S t L) (hd : dok N d = true)
  (K : ∀ ρ' t' L', Rel F ρ' (S'.put d v) t' L' → JO P N ops Q os t' L') : JO P N ops Q (⟨d, op, ty, pos, af, none⟩ :: os) t L := xnew0_ok hX hn hc hR.pl hd K
end
end Go.Proofs.YtaglpckihegmoaaDoorAv
namespace Go.Proofs.YtaglpckihegmoaaDoorAv
open Go Go.RowKit
theorem xdok_eq {N : Nat} {d : Option Nat} (h : xdok N d = true) : dok N d = true := by
 cases d with
 | none => rfl
 | some d => simp only [xdok, bltN, decide_eq_true_eq] at h; simpa [dok] using h
def GI (ops : List Oper) (s : List (Nat × XV)) (G : List (Nat × Bool)) : Prop :=
 ∀ k g, fnd G k = some g → (∃ j b, k = gkey j b ∧ guardOf ops s j b = some g) ∧ ∀ i c x, look s i = .gd c (some k) x → c = g
theorem GI.nil (ops : List Oper) (s : List (Nat × XV)) : GI ops s [] := fun k g h => by simp [fnd] at h
theorem guardOf_put {ops : List Oper} {s : List (Nat × XV)} {d : Nat} {v : XV} {j : Nat} {b : Bool} (h : ∀ o, nth ops j = some o → o.dst ≠ some d) : guardOf ops ((d, v) :: s) j b = guardOf ops s j b := by
 unfold guardOf
 cases hn : nth ops j with
 | none => rfl
 | some o =>
  obtain ⟨od, op, ty, pos, af, gd⟩ := o
  cases od with
  | none => rfl
  | some d' =>
   simp only
   rw [look_put, if_neg]
   rintro rfl
   exact h _ hn rfl
theorem gkey_div (j : Nat) (b : Bool) : gkey j b / 2 = j := by
 cases b <;> simp [gkey] <;> omega
theorem gkey_inj {j j' : Nat} {b b' : Bool} (h : gkey j b = gkey j' b') : j = j' ∧ b = b' := by
 have e := gkey_div j b
 rw [h, gkey_div] at e
 subst e
 refine ⟨rfl, ?_⟩
 cases b <;> cases b' <;> simp [gkey] at h <;> rfl
def GA (ops : List Oper) (s : List (Nat × XV)) (G : List (Nat × Bool)) : Prop :=
 ∀ k g, (k, g) ∈ G → (∃ j b, k = gkey j b ∧ guardOf ops s j b = some g) ∧ ∀ i c x, look s i = .gd c (some k) x → c = g
theorem GA.fnd {ops : List Oper} {s : List (Nat × XV)} {G : List (Nat × Bool)} (h : GA ops s G) {k : Nat} {g : Bool} (hf : YtaglpckihegmoaaDoorAv.fnd G k = some g) : (∃ j b, k = gkey j b ∧ guardOf ops s j b = some g) ∧ ∀ i c x, look s i = .gd c (some k) x → c = g := h k g (fnd_mem _ _ _ hf)
theorem GA.nil (ops : List Oper) (s : List (Nat × XV)) : GA ops s [] := fun k g h => by cases h
theorem dropG_mem {ops : List Oper} {d : Nat} : ∀ {G : List (Nat × Bool)} {k : Nat} {g : Bool}, (k, g) ∈ dropG ops d G → (k, g) ∈ G ∧ ∃ o, nth ops (k / 2) = some o ∧ o.dst ≠ some d
 | [], k, g, h => by simp [dropG] at h
 | (k', g') :: G, k, g, h => by
  simp only [dropG] at h
  split at h
  ·rename_i d' o1 o2 o3 o4 o5 hn
   rw [beqN] at h
   by_cases hd : d = d'
   ·rw [decide_eq_true hd, cond_true] at h
    obtain ⟨h1, h2⟩ := dropG_mem h
    exact ⟨List.mem_cons_of_mem _ h1, h2⟩
   ·rw [decide_eq_false hd, cond_false] at h
    rcases List.mem_cons.1 h with h | h
    ·simp only [Prod.mk.injEq] at h
     obtain ⟨rfl, rfl⟩ := h
     exact ⟨by simp, _, hn, fun e => hd (Option.some.inj e).symm⟩
    ·obtain ⟨h1, h2⟩ := dropG_mem h
     exact ⟨List.mem_cons_of_mem _ h1, h2⟩
  ·obtain ⟨h1, h2⟩ := dropG_mem h
   exact ⟨List.mem_cons_of_mem _ h1, h2⟩
theorem GA.put {ops : List Oper} {s : List (Nat × XV)} {G : List (Nat × Bool)} (h : GA ops s G) {d : Nat} {v : XV} (hv : ∀ c k x, v = .gd c (some k) x → ∀ g, (k, g) ∈ G → c = g) : GA ops ((d, v) :: s) (dropG ops d G) := by
 intro k g hk
 obtain ⟨h1, o, h2, h3⟩ := dropG_mem hk
 obtain ⟨⟨j, b, rfl, e2⟩, e3⟩ := h k g h1
 rw [gkey_div] at h2
 refine ⟨⟨j, b, rfl, ?_⟩, fun i c x hl => ?_⟩
 ·rw [guardOf_put]
  ·exact e2
  ·intro o' ho'
   rw [h2] at ho'
   obtain rfl := Option.some.inj ho'
   exact h3
 ·rw [look_put] at hl
  split at hl
  ·exact hv c _ x hl g h1
  ·exact e3 i c x hl
theorem noKey_ok {k : Nat} : ∀ {s : List (Nat × XV)}, noKey k s = true → ∀ i c x, look s i ≠ .gd c (some k) x
 | [], _, i, c, x, h => by simp [look] at h
 | (d, v) :: s, hk, i, c, x, h => by
  rw [look_put] at h
  have hs : noKey k s = true := by
   unfold noKey at hk
   split at hk
   ·rename_i heq; cases heq
   ·rename_i heq; injection heq with h1 h2; subst h2; simp only [Bool.and_eq_true] at hk; exact hk.2
   ·rename_i heq; injection heq with h1 h2; subst h2; exact hk
  split at h
  ·subst h
   simp [noKey, beqN] at hk
  ·exact noKey_ok hs i c x h
section
variable {P : Program} {N : Nat} {ops : Array Oper} {Q : Exit → TM → GH → Prop} {d : Option Nat} {ty : TypeId} {pos : String} {af : Array Edge} {op : Op} {ρ : Rho} {F : Fr} {S S' : XS} {t : TM} {L : GH} {v : XV} {os : List Oper}
theorem st_ok {o : List Oper} {s : List (Nat × XV)} {G : List (Nat × Bool)} {key : Option Nat} {i : Nat} {b : AV} (hG : GA o s G) (hr : RV ρ (look s i) b) (hk : ∀ k g, key = some k → fnd G k = some g → g = true) (hc : ∀ p ∈ ((look s i).st G key).1, p) :
  RV ρ ((look s i).st G key).2 b := by
 cases hl : look s i with
 | gd c k x =>
  rw [hl] at hr hc
  simp only [RV] at hr
  simp only [XV.st] at hc ⊢
  cases hs : sameK G key k with
  | true =>
   simp only
   refine hr.1 ?_
   unfold sameK at hs
   split at hs
   ·rename_i k1 k2
    split at hs
    ·rename_i q hb hf
     rw [beqN, decide_eq_true_eq] at hb
     subst hb
     rw [(hG.fnd hf).2 i c x hl]
     exact hk _ _ rfl hf
    ·cases hs
   ·cases hs
  | false =>
   rw [hs] at hc
   exact hr.1 (all1 hc)
 | _ => rw [hl] at hr hc; exact hr
theorem st_okO {o : List Oper} {G : List (Nat × Bool)} {key : Option Nat} {x : Operand} (hR : Rel F ρ S t L) (hG : GA o S.s G) (hk : ∀ k g, key = some k → fnd G k = some g → g = true) (hc : ∀ p ∈ ((xev S.s x).st G key).1, p) : RV ρ ((xev S.s x).st G key).2 (ev t x) := by
 cases x with
 | tmp n => exact st_ok hG (hR.sl n) hk hc
 | const v => simp [xev, XV.st, RV, ev]
 | global g =>
  have := xev_ok hR (.global g)
  have hn : ∀ c k x, xev S.s (.global g) ≠ .gd c k x := by
   intro c k x h
   simp only [xev] at h
   split at h <;> cases h
  cases hx : xev S.s (.global g) with
  | gd c k x => exact absurd hx (hn c k x)
  | _ => rw [hx] at this; exact this
 | func f => simp [xev, XV.st, RV, ev]
theorem whose_ok {s : Nat} : ∀ {l : List Oper} {j0 j : Nat}, whose s l j0 = some j → ∃ o, nth l (j - j0) = some o ∧ o.dst = some s ∧ j0 ≤ j
 | [], j0, j, h => by simp [whose] at h
 | o :: l, j0, j, h => by
  obtain ⟨od, op, ty, pos, af, gd⟩ := o
  have step : whose s l (j0 + 1) = some j → ∃ o', nth (⟨od, op, ty, pos, af, gd⟩ :: l) (j - j0) = some o' ∧ o'.dst = some s ∧ j0 ≤ j := by
   intro h
   obtain ⟨o', h1, h2, h3⟩ := whose_ok h
   refine ⟨o', ?_, h2, by omega⟩
   rw [show j - j0 = (j - (j0 + 1)) + 1 by omega]
   exact h1
  cases od with
  | none => simp only [whose] at h; exact step h
  | some d =>
   simp only [whose, beqN] at h
   by_cases hd : d = s
   ·rw [decide_eq_true hd, cond_true] at h
    obtain rfl := Option.some.inj h
    subst hd
    exact ⟨⟨some d, op, ty, pos, af, gd⟩, by simp [nth], rfl, Nat.le_refl _⟩
   ·rw [decide_eq_false hd, cond_false] at h
    exact step h
theorem pick_ok {G : List (Nat × Bool)} {key : Option Nat} (hR : Rel F ρ S t L) (hG : GA ops.toList S.s G) (hk : ∀ k g, key = some k → fnd G k = some g → g = true) (c a b : Operand) (hop : op = .pick c a b) (tb : Bool) (hc : ∀ p ∈ ((xev S.s c).st G key).1, p)
  (hv : ((xev S.s c).st G key).2 = .v (.p (.bool tb))) :
  (tb = true → (∀ p ∈ ((xev S.s a).st G (pickKey ops.toList true op)).1, p) → RV ρ ((xev S.s a).st G (pickKey ops.toList true op)).2 (ev t a)) ∧
  (tb = false → (∀ p ∈ ((xev S.s b).st G (pickKey ops.toList false op)).1, p) → RV ρ ((xev S.s b).st G (pickKey ops.toList false op)).2 (ev t b)) := by
 have key2 : ∀ (bb : Bool), (bif bb then tb else !tb) = true → ∀ k g, pickKey ops.toList bb op = some k → fnd G k = some g → g = true := by
  intro bb hbb k g hp hf
  subst hop
  unfold pickKey at hp
  split at hp
  ·rename_i s a1 a2 heq
   injection heq with h1 h2 h3
   subst h1 h2 h3
   split at hp
   ·rename_i j hw
    obtain rfl := Option.some.inj hp
    obtain ⟨o, ho, hd, _⟩ := whose_ok hw
    rw [Nat.sub_zero] at ho
    obtain ⟨⟨j', b', hkk, hgo⟩, _⟩ := hG.fnd hf
    obtain ⟨rfl, rfl⟩ := gkey_inj hkk
    obtain ⟨od, oop, oty, opos, oaf, ogd⟩ := o
    simp only at hd
    subst hd
    simp only [guardOf, ho] at hgo
    simp only [xev] at hv hc
    cases hl : look S.s s with
    | v av =>
     rw [hl] at hv hgo
     simp only [XV.st] at hv
     injection hv with hv
     subst hv
     simp only [Option.some.injEq] at hgo
     rw [← hgo]; exact hbb
    | gd c0 k0 x0 =>
     rw [hl] at hv hgo hc
     have hx0 : x0 = .v (.p (.bool tb)) := by
      simp only [XV.st] at hv
      split at hv <;> exact hv
     subst hx0
     simp only [Option.some.injEq] at hgo
     have hc0 : c0 = true := by
      simp only [XV.st] at hc
      cases hs : sameK G key k0 with
      | false => rw [hs] at hc; exact all1 hc
      | true =>
       unfold sameK at hs
       split at hs
       ·rename_i k1 k2
        split at hs
        ·rename_i q hb hf2
         rw [beqN, decide_eq_true_eq] at hb
         subst hb
         rw [(hG.fnd hf2).2 s c0 _ hl]
         exact hk _ _ rfl hf2
        ·cases hs
       ·cases hs
     rw [← hgo, hc0, Bool.true_and]
     exact hbb
    | _ => rw [hl] at hgo; cases hgo
   ·cases hp
  ·cases hp
 exact ⟨fun h => st_okO hR hG (key2 true (by simpa using h)), fun h => st_okO hR hG (key2 false (by simpa using h))⟩
theorem JO.outside {s : Nat} {c : Bool} (hs : ¬ s < N) (ht : t s = .p (.bool c)) : JO P N ops Q os t L := by
 intro ro L0 w0 a w he sm
 have hv := sm.tm s
 rw [ht] at hv
 simp only [VS] at hv
 have : a.tmps.getD s undef = undef := by
  rw [Array.getD_eq_getD_getElem?, Array.getElem?_eq_none (by rw [sm.size]; exact Nat.le_of_not_lt hs)]
  rfl
 rw [this] at hv
 simp [undef] at hv
theorem nth_bind {j s : Nat} {o : Oper} (hn : nth ops.toList j = some o) (hd : o.dst = some s) : (ops[j]?).bind (·.dst) = some s := by
 rw [nth_eq] at hn
 have : ops[j]? = some o := by simpa using hn
 rw [this]; exact hd
theorem guard_ok {j : Nat} {b g : Bool} {d : Nat} (hR : ∀ o s, nth ops.toList j = some o → o.dst = some s → RV ρ (look S.s s) (t s)) (hg : guardOf ops.toList S.s j b = some g) (hd : dok N (some d) = true)
  (h1 : g = true → JO P N ops Q (⟨some d, op, ty, pos, af, none⟩ :: os) t L) (h2 : g = false → JO P N ops Q os (t.put d (.p undef)) L) : JO P N ops Q (⟨some d, op, ty, pos, af, some (j, b)⟩ :: os) t L := by
 have hdN : d < N := dok_lt hd d rfl
 unfold guardOf at hg
 split at hg
 ·rename_i s o1 o2 o3 o4 o5 hn
  have hj := nth_bind hn rfl
  have hsl := hR _ s hn rfl
  by_cases hs : s < N
  ·split at hg
   ·rename_i c hl
    rw [hl] at hsl
    simp only [RV] at hsl
    obtain rfl := Option.some.inj hg
    cases b <;> cases c
    ·exact JO.on hs hj hsl rfl (h1 rfl)
    ·exact JO.off hdN hs hj hsl rfl (h2 rfl)
    ·exact JO.off hdN hs hj hsl rfl (h2 rfl)
    ·exact JO.on hs hj hsl rfl (h1 rfl)
   ·rename_i c0 k c hl
    rw [hl] at hsl
    simp only [RV] at hsl
    obtain rfl := Option.some.inj hg
    cases c0 with
    | false => exact JO.offU hdN hs hj (hsl.2 rfl) (h2 rfl)
    | true =>
     have := hsl.1 rfl
     cases b <;> cases c
     ·exact JO.on hs hj this rfl (h1 rfl)
     ·exact JO.off hdN hs hj this rfl (h2 rfl)
     ·exact JO.off hdN hs hj this rfl (h2 rfl)
     ·exact JO.on hs hj this rfl (h1 rfl)
   ·cases hg
  ·-- beyond the frame
   split at hg
   ·rename_i c hl
    rw [hl] at hsl
    simp only [RV] at hsl
    exact JO.outside hs hsl
   ·rename_i c0 k c hl
    rw [hl] at hsl
    simp only [RV] at hsl
    obtain rfl := Option.some.inj hg
    cases c0 with
    | true => exact JO.outside hs (hsl.1 rfl)
    | false =>
     refine fun ro L0 w0 a w he sm => ?_
     have hv := sm.tm s
     have hw : Region.wanted ⟨some d, op, ty, pos, af, some (j, b)⟩ (yielded ops a.tmps) = false := by
      have hno : a.tmps[s]? = none := Array.getElem?_eq_none (by rw [sm.size]; exact Nat.le_of_not_lt hs)
      simp [Region.wanted, yielded, hj, hno]
     unfold wpListIn
     rw [if_neg (by rw [hw]; simp)]
     exact And.intro (fun _ _ => trivial) <| h2 rfl ro L0 w0 _ w he (sm.put d hdN (by simp [VS]))
   ·cases hg
 ·cases hg
theorem xguard_ok {G G' : List (Nat × Bool)} {j : Nat} {b g : Bool} {k : Option Nat} (hG : GA ops.toList S.s G) (h : xguard ops.toList S G j b = some (g, k, G')) :
  guardOf ops.toList S.s j b = some g ∧ GA ops.toList S.s G' ∧ ∀ k', k = some k' → ∀ g', (k', g') ∈ G' → g' = g := by
 have fin : guardOf ops.toList S.s j b = some g → GA ops.toList S.s G' → (k = some (gkey j b) ∨ k = none) → guardOf ops.toList S.s j b = some g ∧ GA ops.toList S.s G' ∧ ∀ k', k = some k' → ∀ g', (k', g') ∈ G' → g' = g := by
  intro e1 e2 hk
  refine ⟨e1, e2, fun k' h1 g' h2 => ?_⟩
  rcases hk with rfl | rfl
  ·obtain rfl := Option.some.inj h1
   obtain ⟨⟨j', b', e3, e4⟩, _⟩ := e2 _ _ h2
   obtain ⟨rfl, rfl⟩ := gkey_inj e3
   rw [e1] at e4
   exact (Option.some.inj e4).symm
  ·cases h1
 unfold xguard at h
 split at h
 ·rename_i g0 hf
  simp only [Option.some.injEq, Prod.mk.injEq] at h
  obtain ⟨rfl, rfl, rfl⟩ := h
  obtain ⟨⟨j', b', e3, e4⟩, _⟩ := hG.fnd hf
  obtain ⟨rfl, rfl⟩ := gkey_inj e3
  exact fin e4 hG (.inl rfl)
 ·split at h
  ·rename_i g0 hgo
   split at h
   ·rename_i hnk
    simp only [Option.some.injEq, Prod.mk.injEq] at h
    obtain ⟨rfl, rfl, rfl⟩ := h
    refine fin hgo ?_ (.inl rfl)
    intro k g hk
    rcases List.mem_cons.1 hk with hk | hk
    ·simp only [Prod.mk.injEq] at hk
     obtain ⟨rfl, rfl⟩ := hk
     exact ⟨⟨j, b, rfl, hgo⟩, fun i c x hl => absurd hl (noKey_ok hnk i c x)⟩
    ·exact hG k g hk
   ·simp only [Option.some.injEq, Prod.mk.injEq] at h
    obtain ⟨rfl, rfl, rfl⟩ := h
    exact fin hgo hG (.inr rfl)
  ·cases h
theorem RRow.rows {rows : Nat → Row} {h : List (Nat × XRow)} (hrw : ∀ id r, findR h id = some r → RR ρ L id r) (hrows : ∀ id g, ρ id = some (some g) → (findR h id).isSome = true → L g = some (rows id)) :
  ∀ id r, findR h id = some r → ∀ g, ρ id = some (some g) → RRow ρ r (rows id) := by
 intro id r hf g hg
 obtain ⟨row, h1, h2⟩ := (hrw id r hf).some_g hg
 rw [hrows id g hg (by rw [hf]; rfl)] at h1
 obtain rfl := Option.some.inj h1
 exact h2
def rowsOf (ρ : Rho) (L : GH) : Nat → Row := fun id => match ρ id with
 | some (some g) => (L g).getD ⟨0, false, []⟩
 | _ => ⟨0, false, []⟩
theorem rowsOf_ok (hR : Rel F ρ S t L) : ∀ id g, ρ id = some (some g) → (findR S.h id).isSome = true → L g = some (rowsOf ρ L id) := by
 intro id g hg hs
 cases hf : findR S.h id with
 | none => rw [hf] at hs; cases hs
 | some r =>
  obtain ⟨row, h1, _⟩ := (hR.rw id r hf).some_g hg
  simp [rowsOf, hg, h1]
theorem xop_wr {X : Cx} {h : List (Nat × XRow)} {e eT eF : Operand → List Prop × XV} {cs : List Prop} {id : Nat} {r : XRow} (hb : xop X h e eT eF op = some (cs, v, some (id, r))) : (findR h id).isSome = true ∧ id ∈ touchX e op ∧ ∀ e ap cs, findR h id = some (.one e ap cs) → ∃ e' ap' cs', r = .one e' ap' cs' := by
 cases op with
 | store T x y =>
  simp only [xop] at hb
  split at hb
  ·split at hb
   ·split at hb
    ·rename_i cs' u hx
     simp only [Option.some.injEq, Prod.mk.injEq] at hb
     obtain ⟨-, -, rfl⟩ := hb
     unfold xstore at hx
     simp only [xforce_eq] at hx
     split at hx
     ·rename_i id' sz i o heq
      split at hx
      ·rename_i hf
       split at hx
       ·simp only [Option.some.injEq, Prod.mk.injEq] at hx
        obtain ⟨-, rfl, rfl⟩ := hx
        exact ⟨by rw [hf]; rfl, by simp [touchX, heq, ptrId], fun _ _ _ _ => ⟨_, _, _, rfl⟩⟩
       ·split at hx
        ·simp only [Option.some.injEq, Prod.mk.injEq] at hx
         obtain ⟨-, rfl, rfl⟩ := hx
         exact ⟨by rw [hf]; rfl, by simp [touchX, heq, ptrId], fun _ _ _ _ => ⟨_, _, _, rfl⟩⟩
        ·split at hx
         ·simp only [Option.some.injEq, Prod.mk.injEq] at hx
          obtain ⟨-, rfl, rfl⟩ := hx
          exact ⟨by rw [hf]; rfl, by simp [touchX, heq, ptrId], fun _ _ _ _ => ⟨_, _, _, rfl⟩⟩
         ·cases hx
       ·cases hx
      ·rename_i hf
       split at hx
       ·simp only [Option.some.injEq, Prod.mk.injEq] at hx
        obtain ⟨-, rfl, -⟩ := hx
        exact ⟨by rw [hf]; rfl, by simp [touchX, heq, ptrId], fun _ _ _ h => by rw [hf] at h; cases h⟩
       ·cases hx
      ·rename_i hf
       split at hx
       ·simp only [Option.some.injEq, Prod.mk.injEq] at hx
        obtain ⟨-, rfl, -⟩ := hx
        exact ⟨by rw [hf]; rfl, by simp [touchX, heq, ptrId], fun _ _ _ h => by rw [hf] at h; cases h⟩
       ·cases hx
      ·cases hx
      ·cases hx
      ·cases hx
      ·cases hx
     ·cases hx
    ·cases hb
   ·cases hb
  ·cases hb
 | pick c a b =>
  simp only [xop] at hb
  split at hb
  ·split at hb <;> simp at hb
  ·cases hb
 | slice T x lo hi mx =>
  cases mx with
  | some mm =>
   cases lo with
   | some _ => simp [xop] at hb
   | none =>
    cases hi with
    | none => simp [xop] at hb
    | some hh =>
     simp only [xop] at hb
     split at hb
     ·split at hb <;> simp at hb
     ·cases hb
  | none =>
   simp only [xop] at hb
   split at hb
   ·simp at hb
   ·split at hb <;> simp at hb
 | call c =>
  simp only [xop] at hb
  split at hb
  ·split at hb
   ·split at hb <;> simp at hb
   ·cases hb
  ·split at hb
   ·split at hb <;> simp at hb
   ·cases hb
  ·split at hb <;> simp at hb
  ·split at hb <;> simp at hb
  ·split at hb
   ·split at hb <;> simp at hb
   ·split at hb
    ·rename_i H id' rest hH ha
     split at hb
     ·rename_i el ap cells hf
      split at hb
      ·simp at hb
      ·simp only [Option.some.injEq, Prod.mk.injEq] at hb
       obtain ⟨-, -, rfl, rfl⟩ := hb
       refine ⟨by rw [hf]; rfl, ?_, fun _ _ _ _ => ⟨_, _, _, rfl⟩⟩
       simp only [touchX]
       cases hl : c.args.toList with
       | nil => rw [hl] at ha; cases ha
       | cons x0 xs =>
        rw [hl] at ha
        simp only [xargs, List.cons.injEq] at ha
        cases xs <;> simp [ha.1, ptrId]
      ·cases hb
     ·cases hb
    ·cases hb
  ·cases hb
 | _ => first | (simp [xop] at hb; done) | (simp only [xop] at hb; (repeat' split at hb) <;> simp at hb)
theorem store_wr {X : Cx} {h : List (Nat × XRow)} {e eT eF : Operand → List Prop × XV} {cs : List Prop} {w : Option (Nat × XRow)} {T : TypeId} {x y : Operand} (hb : xop X h e eT eF (.store T x y) = some (cs, v, w)) : w ≠ none := by
 simp only [xop] at hb
 split at hb
 ·split at hb
  ·split at hb
   ·simp only [Option.some.injEq, Prod.mk.injEq] at hb
    obtain ⟨-, -, rfl⟩ := hb
    simp
   ·cases hb
  ·cases hb
 ·cases hb
theorem Rel.step {w : Option (Nat × XRow)} {W : Option (Nat × Row)} {v' : AV} (hR : Rel F ρ S t L) (d : Option Nat) (hv : RV ρ v v') (hw : WRel ρ w W) (hid : ∀ id r, w = some (id, r) → (findR S.h id).isSome = true ∧ ∀ e ap cs, findR S.h id = some (.one e ap cs) → ∃ e' ap' cs', r = .one e' ap' cs') : Rel F ρ ((S.put d v).wr w) (t.putO d v') (appW L W) := by
 have h1 := hR.put d hv
 cases w with
 | none =>
  cases W with
  | none => exact h1
  | some W => exact hw.elim
 | some w =>
  cases W with
  | none => obtain ⟨a, b⟩ := w; exact hw.elim
  | some W =>
   obtain ⟨id, r⟩ := w
   obtain ⟨g, row⟩ := W
   obtain ⟨k1, k2⟩ := hw
   have hs : (findR (S.put d v).h id).isSome = true ∧ ∀ e ap cs, findR (S.put d v).h id = some (.one e ap cs) → ∃ e' ap' cs', r = .one e' ap' cs' := by
    have := hid id r rfl
    cases d <;> exact this
   exact h1.wr hs.1 k1 k2 hs.2
theorem wr_s (S : XS) (w : Option (Nat × XRow)) : (S.wr w).s = S.s := by cases w <;> rfl
theorem put_s (S : XS) (d : Option Nat) (v : XV) : (S.put d v).s = (match d with | some d => (d, v) :: S.s | none => S.s) := by cases d <;> rfl
theorem gs_in {s : List (Nat × XV)} {t : TM} {ρ : Rho} (h : ∀ i, RV ρ (look s i) (t i)) {gs : List XV} {tg : List AV} (hg : RVL ρ gs tg) : ∀ l : List (Nat × XV), RVL ρ (gsApp (gsIn s l) gs) (l.map (fun p => t p.1) ++ tg)
 | [] => hg
 | (d, v) :: l => by
  simp only [gsIn, gsApp, List.map_cons, List.cons_append, RVL]
  exact ⟨h d, gs_in h hg l⟩
theorem gs_out {t : TM} {ρ : Rho} {tg : List AV} : ∀ (l : List (Nat × XV)) (vs : List XV), RVL ρ vs (l.map (fun p => t p.1) ++ tg) → (∀ i, RV ρ (look (gsOut l vs) i) (t i)) ∧ RVL ρ (gsRest l vs) tg
 | [], vs, h => ⟨fun i => by simp [gsOut, look, RV], by simpa [gsRest] using h⟩
 | (d, u) :: l, [], h => by simp [RVL] at h
 | (d, u) :: l, v :: vs, h => by
  simp only [List.map_cons, List.cons_append, RVL] at h
  obtain ⟨h1, h2⟩ := gs_out l vs h.2
  refine ⟨fun i => ?_, h2⟩
  simp only [gsOut]
  rw [look_put]
  split
  ·rename_i hi; rw [hi]; exact h.1
  ·exact h1 i
theorem xput_ok {X : Cx} (hX : X.ok P) {K : XV → XS → Prop} {T : TypeId} {x y v : Operand} (hR : Rel F ρ S t L) (hd : dok N d = true) (hnd : ∀ c, op ≠ .defer c) (hop : ∀ e, execOp e ⟨d, op, ty, pos, af, none⟩ = execOp e ⟨d, .mapUpdate T x y v, ty, pos, af, none⟩) (h : xput X S K T x y v)
  (hK : ∀ v ρ' S' t' L', K v S' → Rel F ρ' (S'.put d v) t' L' → JO P N ops Q os t' L') : JO P N ops Q (⟨d, op, ty, pos, af, none⟩ :: os) t L := by
 unfold xput at h
 split at h
 case h_2 => exact h.elim
 rename_i kt et cs id cs' ky cs2 z hU hx hy hz
 split at h
 case h_2 => exact h.elim
 rename_i D l k hD hf hk
 split at h
 case h_2 => exact h.elim
 rename_i hty
 obtain ⟨hc1, h⟩ := andK_all _ _ h
 obtain ⟨hc2, h⟩ := andK_all _ _ h
 obtain ⟨hc3, h⟩ := andK_all _ _ h
 obtain ⟨h3, h4⟩ := h
 have hv := st_none (xev_ok hR x) (by rw [hx]; exact hc1)
 have hw := st_none (xev_ok hR y) (by rw [hy]; exact hc2)
 have hu := st_none (xev_ok hR v) (by rw [hz]; exact hc3)
 rw [hx] at hv
 rw [hy, keyX_eq hk] at hw
 rw [hz] at hu
 simp only [RV] at hv hw hu
 obtain ⟨g, hg, hv⟩ := hv
 obtain ⟨row, hL, hrow⟩ := (hR.rw id _ hf).some_g hg
 simp only [RRow] at hrow
 subst hrow
 refine JO.mapPut hnd hop (okU_fnd hX.U hU) (okU_fnd hX.U hD) hv hw hu hL hty h3 hd (hK _ ρ _ _ _ h4 (Rel.put (Rel.wr hR (by rw [hf]; rfl) hg (r := .mp (mput l k z)) (by simp [RRow]) (fun e ap cs h1 => by rw [hf] at h1; cases h1)) d ?_))
 simp [RV]
theorem xcallL_ok {X : Cx} (hX : X.ok P) {K : XV → XS → Prop} (h : xcallL X S K op) (hR : Rel F ρ S t L) (hd : dok N d = true)
  (hK : ∀ v ρ' S' t' L', K v S' → Rel F ρ' (S'.put d v) t' L' → JO P N ops Q os t' L') : JO P N ops Q (⟨d, op, ty, pos, af, none⟩ :: os) t L := by
 unfold xcallL at h
 split at h
 ·rename_i f ar at'
  split at h
  ·rename_i T hT
   obtain ⟨hc, h⟩ := andK_all _ _ h
   obtain ⟨⟨fn, co, h1, h2, h3⟩, h4⟩ := hX.L f T hT
   have hargs := xargs_ok ρ (ev t) ar.toList (fun x _ hc => st_none (xev_ok hR x) hc) hc
   have hR1 : Rel ⟨F.F, F.g, (S.s.map fun p => t p.1) ++ F.tg⟩ ρ S.into t L := ⟨fun i => by simp [XS.into, look, RV], hR.rw, hR.inj, hR.nx, hR.fr, hR.pin, gs_in hR.sl hR.gh S.s⟩
   have hj := h4 _ _ _ h _ ρ t L _ hR1 hargs
   have := JO.call (P := P) (N := N) (ops := ops) (Q := Q) (ty := ty) (pos := pos) (af := af) (os := os) (t := t) (L := L) (d := d) (xs := ar.toList) (tys := at') h1 h2 h3 hd hj fun v L' ⟨ρ', S', t', xv, k1, k2, k3⟩ => by
    obtain ⟨g1, g2⟩ := gs_out (t := t) (tg := F.tg) S.s S'.gs k1.gh
    have hR2 : Rel F ρ' (S.back S') t L' := ⟨g1, k1.rw, k1.inj, k1.nx, k1.fr, k1.pin, g2⟩
    exact hK xv ρ' (S.back S') _ L' k3 (hR2.put d k2)
   simpa using this
  ·exact h.elim
 ·rename_i k ar at'
  split at h
  ·rename_i f hf
   split at h
   ·rename_i C hC
    dsimp only at h
    split at h
    ·rename_i cs v hv
     obtain ⟨hc1, h⟩ := andK_all _ _ h
     obtain ⟨hc2, h⟩ := andK_all _ _ h
     obtain ⟨⟨fn, co, h1, h2, h3⟩, h4⟩ := hX.C f C hC
     have hargs := xargs_ok ρ (ev t) ar.toList (fun x _ hc => st_none (xev_ok hR x) hc) hc1
     obtain ⟨v', hv', hj⟩ := h4 _ _ _ hv hc2 ρ _ hargs
     have hl := hR.sl k
     rw [fnO_eq hf] at hl
     simp only [RV] at hl
     have := JO.callF (P := P) (N := N) (ops := ops) (Q := Q) (ty := ty) (pos := pos) (af := af) (os := os) (t := t) (L := L) (d := d) (o := .tmp k) (xs := ar.toList) (tys := at') h1 h2 h3 hl hd (hj L) fun w L' ⟨e1, e2⟩ => by
      subst e1 e2
      exact hK v ρ S _ _ h (hR.put d hv')
     simpa using this
    ·exact h.elim
   ·exact h.elim
  ·split at h
   ·rename_i f id hl0
    split at h
    ·rename_i T hT
     obtain ⟨hc, h⟩ := andK_all _ _ h
     obtain ⟨⟨fn, co, h1, h2, h3⟩, h4⟩ := hX.L f T hT
     have hl := hR.sl k
     rw [hl0] at hl
     simp only [RV] at hl
     obtain ⟨g, hg, hl⟩ := hl
     have hargs := xargs_ok ρ (ev t) ar.toList (fun x _ hc => st_none (xev_ok hR x) hc) hc
     have hargs2 : RVL ρ (xapp (xargs (fun x => (xev S.s x).st [] none) ar.toList).2 [.ptr id 0 0 0]) (ar.toList.map (ev t) ++ [.ptr g 0]) := by
      rw [xapp_eq]
      refine RVL.append hargs ?_
      simp only [RVL, RV]
      exact ⟨⟨g, hg, by simp⟩, trivial⟩
     have hR1 : Rel ⟨F.F, F.g, (S.s.map fun p => t p.1) ++ F.tg⟩ ρ S.into t L := ⟨fun i => by simp [XS.into, look, RV], hR.rw, hR.inj, hR.nx, hR.fr, hR.pin, gs_in hR.sl hR.gh S.s⟩
     have hj := h4 _ _ _ h _ ρ t L _ hR1 hargs2
     have := JO.callC (P := P) (N := N) (ops := ops) (Q := Q) (ty := ty) (pos := pos) (af := af) (os := os) (t := t) (L := L) (d := d) (o := .tmp k) (xs := ar.toList) (tys := at') h1 h2 h3 hl hd hj fun v L' ⟨ρ', S', t', xv, k1, k2, k3⟩ => by
      obtain ⟨g1, g2⟩ := gs_out (t := t) (tg := F.tg) S.s S'.gs k1.gh
      have hR2 : Rel F ρ' (S.back S') t L' := ⟨g1, k1.rw, k1.inj, k1.nx, k1.fr, k1.pin, g2⟩
      exact hK xv ρ' (S.back S') _ L' k3 (hR2.put d k2)
     simpa using this
    ·exact h.elim
   ·exact h.elim
 ·rename_i f x
  split at h
  ·rename_i cs id hx
   obtain ⟨hc, h⟩ := andK_all _ _ h
   have hv := st_none (xev_ok hR x) (by rw [hx]; exact hc)
   rw [hx] at hv
   simp only [RV] at hv
   obtain ⟨g, hg, hv⟩ := hv
   refine JO.mkC (g := g) (by simpa using hv) hd (hK _ ρ S _ _ h (hR.put d ?_))
   simp only [RV]
   exact ⟨g, hg, rfl⟩
  ·exact h.elim
 ·rename_i T
  refine JO.makeMap hd fun g hg => hK _ _ _ _ _ h ((Rel.new hR hg (r := .mp []) (row := ⟨0, .mp [], []⟩) (by simp [RRow])).put d ?_)
  simp only [RV]
  exact ⟨g, set_same _ _ _, rfl⟩
 ·rename_i T x y
  split at h
  case h_2 => exact h.elim
  rename_i kt et cs id cs' ky hU hx hy
  split at h
  case h_2 => exact h.elim
  rename_i D z sz bz l k hD hI hf hk
  split at h
  case h_2 => exact h.elim
  rename_i hty
  have go : (∀ p ∈ cs, p) → (∀ p ∈ cs', p) → (∀ p ∈ l, p.1.ty D = true) → ∀ xv, RV ρ xv (.p ((mfind k l).getD z)) → K xv S → JO P N ops Q (⟨d, .lookup T x y false, ty, pos, af, none⟩ :: os) t L := by
   intro hc1 hc2 hl xv hxv hKK
   have hv := st_none (xev_ok hR x) (by rw [hx]; exact hc1)
   have hw := st_none (xev_ok hR y) (by rw [hy]; exact hc2)
   rw [hx] at hv
   rw [hy, keyX_eq hk] at hw
   simp only [RV] at hv hw
   obtain ⟨g, hg, hv⟩ := hv
   obtain ⟨row, hL, hrow⟩ := (hR.rw id _ hf).some_g hg
   simp only [RRow] at hrow
   subst hrow
   exact JO.lookup (okU_fnd hX.U hU) (okU_fnd hX.U hD) (okI_fnd hX.I hI) hv hw hL hty hl hd (hK _ ρ S _ _ hKK (hR.put d hxv))
  split at h
  ·obtain ⟨hc1, h⟩ := andK_all _ _ h
   obtain ⟨hc2, h⟩ := andK_all _ _ h
   obtain ⟨h3, h4⟩ := h
   exact go hc1 hc2 (fun p hp => (h3 p hp).1) _ (by simp only [RV]; rw [mgB_ok h3]) h4
  ·obtain ⟨hc1, h⟩ := andK_all _ _ h
   obtain ⟨hc2, h⟩ := andK_all _ _ h
   obtain ⟨rfl, h3, h4⟩ := h
   exact go hc1 hc2 (fun p hp => (h3 p hp).1) _ (by simp only [RV]; rw [mgI_ok h3]) h4
  ·exact h.elim
 ·rename_i T x y v
  exact xput_ok hX hR hd (fun c h => by cases h) (fun _ => rfl) h hK
 ·rename_i T x y v
  exact xput_ok hX hR hd (fun c h => by cases h) (fun _ => rfl) h hK
 ·rename_i T x
  split at h
  ·rename_i cs b hU hx
   obtain ⟨hc, h⟩ := andK_all _ _ h
   have hv := st_none (xev_ok hR x) (by rw [hx]; exact hc)
   rw [hx] at hv
   simp only [RV] at hv
   refine JO.range (okU_fnd hX.U hU) hv hd fun g hg => hK _ _ _ _ _ h ((Rel.new hR hg (r := .it b 0) (row := ⟨0, .it b 0, []⟩) (by simp [RRow])).put d ?_)
   simp only [RV]
   exact ⟨g, set_same _ _ _, by simp⟩
  ·rename_i kt et cs id hU hx
   split at h
   ·rename_i l hf
    obtain ⟨hc, h⟩ := andK_all _ _ h
    have hv := st_none (xev_ok hR x) (by rw [hx]; exact hc)
    rw [hx] at hv
    simp only [RV] at hv
    obtain ⟨g0, hg, hv⟩ := hv
    obtain ⟨row, hL, hrow⟩ := (hR.rw id _ hf).some_g hg
    simp only [RRow] at hrow
    subst hrow
    refine JO.rangeM (okU_fnd hX.U hU) hv hL hd fun g hg2 => hK _ _ _ _ _ h ((Rel.new (Rel.gone hR hf hg fun _ _ _ h => by cases h) hg2 (r := .mit l 0 none) (row := ⟨0, .mit g0 l 0 none, []⟩) (by simp [RRow])).put d ?_)
    simp only [RV]
    exact ⟨g, set_same _ _ _, by simp⟩
   ·exact h.elim
  ·exact h.elim
 ·rename_i x
  split at h
  ·rename_i cs id hx
   split at h
   ·rename_i l k c hf
    obtain ⟨hc, h⟩ := andK_all _ _ h
    have hv := st_none (xev_ok hR x) (by rw [hx]; exact hc)
    rw [hx] at hv
    simp only [RV] at hv
    obtain ⟨g, hg, hv⟩ := hv
    obtain ⟨row, hL, hrow⟩ := (hR.rw id _ hf).some_g hg
    simp only [RRow] at hrow
    obtain ⟨gm, rfl⟩ := hrow
    refine JO.nextM (by simpa using hv) hL hd (fun hk p hp => hK _ ρ _ _ _ (forK_mem (h.1 (by rw [bltN]; exact decide_eq_true hk)) p hp) (Rel.put (Rel.wr hR (by rw [hf]; rfl) hg (r := .mit l (k + 1) (some p)) (by simp [RRow]) (fun e ap cs h1 => by rw [hf] at h1; cases h1)) d ?_)) (hK _ ρ S _ _ h.2 (hR.put d ?_))
    ·simp [RV, RVL]
    ·simp [RV, RVL]
   ·exact h.elim
  ·exact h.elim
 ·rename_i x
  split at h
  ·rename_i cs id hx
   split at h
   ·rename_i l k p hf
    obtain ⟨hc, h⟩ := andK_all _ _ h
    have hv := st_none (xev_ok hR x) (by rw [hx]; exact hc)
    rw [hx] at hv
    simp only [RV] at hv
    obtain ⟨g, hg, hv⟩ := hv
    obtain ⟨row, hL, hrow⟩ := (hR.rw id _ hf).some_g hg
    simp only [RRow] at hrow
    obtain ⟨gm, rfl⟩ := hrow
    exact JO.entryM (by simpa using hv) hL hd (hK _ ρ S _ _ h (hR.put d (by simp [RV, RVL])))
   ·exact h.elim
  ·exact h.elim
 ·rename_i x
  split at h
  ·rename_i cs id hx
   split at h
   ·rename_i b p hf
    obtain ⟨hc, h⟩ := andK_all _ _ h
    have hv := st_none (xev_ok hR x) (by rw [hx]; exact hc)
    rw [hx] at hv
    simp only [RV] at hv
    obtain ⟨g, hg, hv⟩ := hv
    obtain ⟨row, hL, hrow⟩ := (hR.rw id _ hf).some_g hg
    simp only [RRow] at hrow
    subst hrow
    refine JO.next (by simpa using hv) hL hd (fun hp => hK _ ρ _ _ _ (h.1 hp) (Rel.put (Rel.wr hR (by rw [hf]; rfl) hg (r := .it b (p + (Utf8.decode b p).2)) (by simp [RRow]) (fun e ap cs h1 => by rw [hf] at h1; cases h1)) d ?_)) (fun hp => hK _ ρ S _ _ (h.2 hp) (hR.put d ?_))
    ·simp [RV, RVL]
    ·simp [RV, RVL]
   ·exact h.elim
  ·exact h.elim
 ·exact h.elim
theorem JO.retell {t t' : TM} {L L' : GH} (hd : ∀ b, L b = none → L' b = none)
  (hv : ∀ w, (∀ g r, L g = some r → RowR L w g r) → (∀ g r, L' g = some r → RowR L' w g r) ∧ ∀ i x, VS L w (t i) x → VS L' w (t' i) x) (h : JO P N ops Q os t' L') : JO P N ops Q os t L := by
 intro ro L0 w0 a w he hs
 have hx := Ext.drop w hd
 obtain ⟨h1, h2⟩ := hv w hs.rows
 exact h ro L0 w0 a w (he.trans hx) ⟨fun i => h2 i _ (hs.tm i), h1, hs.size, hs.df.1, hs.df.2.ext hx⟩
theorem xfrzO_ok {d : Nat} {cs : List Prop} (h : xfrz S d = some (cs, S')) (hc : ∀ p ∈ cs, p) (hR : Rel F ρ S t L) (K : ∀ ρ' t' L', Rel F ρ' S' t' L' → JO P N ops Q os t' L') : JO P N ops Q os t L := by
 unfold xfrz at h
 split at h
 ·rename_i id sz n hl
  split at h
  ·rename_i e n' sz' f hq
   split at h
   ·rename_i hs
    rw [beqN, decide_eq_true_eq] at hs
    subst hs
    simp only [Option.some.injEq, Prod.mk.injEq] at h
    obtain ⟨rfl, rfl⟩ := h
    have hn : n = n' := all1 hc
    subst hn
    have hsl := hR.sl d
    rw [hl] at hsl
    simp only [RV] at hsl
    have hlt : ∀ o, ρ id = some o → id < S.nx := by
     intro o ho
     rcases Nat.lt_or_ge id S.nx with h | h
     ·exact h
     ·rw [hR.nx id h] at ho; cases ho
    have go : ∀ (L0 : GH) (og : Option Nat) (row : Row), L = updo L0 og row → row.cs = vecOf n sz (fun i => toAVL (f i)) → Fre L0 og → ρ id = some og → t d = hv og sz n → (og = none → row.cs = [] ∧ n = 0) → JO P N ops Q os t L := by
     intro L0 og row hL hcs hF hid ht hnil
     subst hL
     refine JO.freeze d hF ht hnil (by rw [hcs, vecOf_length]) ?_
     rw [hcs]
     -- what is left is told of no block that is this one
     have fi : ∀ i, findR (dropH id (delR S.h id)) i = if i = id then none else (findR S.h i).map (dropRow id) := by
      intro i
      rw [findR_drop, findR_del]
      by_cases hi : i = id
      ·rw [if_pos hi, if_pos hi]; rfl
      ·rw [if_neg hi, if_neg hi]
     have old : ∀ i g row', i ≠ id → (findR S.h i).isSome = true → ρ i = some (some g) → updo L0 og row g = some row' → L0 g = some row' := by
      intro i g row' hi hs e1 e2
      cases og with
      | none => exact e2
      | some g0 =>
       have hne : g ≠ g0 := by
        rintro rfl
        exact hi (hR.inj i id _ hs (by rw [hq]; rfl) e1 hid)
       simpa [updo, upd_ne _ _ _ _ hne] using e2
     refine K (ρ.set id none) _ _ ⟨fun i => ?_, fun i q hf => ?_, fun i j g hi hj e1 e2 => ?_, fun i hi => ?_, fun b q hb => ?_, fun hp => ?_, dropC_ok hR.gh⟩
     ·show RV _ (look ((d, .fz n sz f) :: dropS id S.s) i) _
      rw [look_put]
      by_cases hi : i = d
      ·rw [if_pos hi, hi, TM.put_same]
       simp only [RV, toAV]
      ·rw [if_neg hi, TM.put_ne _ _ _ _ hi, look_drop]
       exact RV.drop (hR.sl i)
     ·simp only at hf
      rw [fi] at hf
      by_cases hi : i = id
      ·rw [if_pos hi] at hf; cases hf
      ·rw [if_neg hi] at hf
       cases hf2 : findR S.h i with
       | none => rw [hf2] at hf; cases hf
       | some p =>
        rw [hf2] at hf
        obtain rfl := Option.some.inj hf
        rcases hR.rw i p hf2 with ⟨g', row', h1, h2, h3⟩ | ⟨h1, e, sz, f, rfl⟩
        ·exact .inl ⟨g', row', by rw [set_ne _ _ hi]; exact h1, old i g' row' hi (by rw [hf2]; rfl) h1 h2, h3.drop⟩
        ·exact .inr ⟨by rw [set_ne _ _ hi]; exact h1, e, sz, f, rfl⟩
     ·simp only at hi hj
      rw [fi] at hi hj
      by_cases a1 : i = id
      ·rw [if_pos a1] at hi; cases hi
      ·by_cases a2 : j = id
       ·rw [if_pos a2] at hj; cases hj
       ·rw [if_neg a1] at hi
        rw [if_neg a2] at hj
        rw [set_ne _ _ a1] at e1
        rw [set_ne _ _ a2] at e2
        exact hR.inj i j g (by simpa using hi) (by simpa using hj) e1 e2
     ·simp only at hi
      have := hlt og hid
      rw [set_ne _ _ (by omega)]
      exact hR.nx i hi
     ·obtain ⟨h1, h2⟩ := hR.fr b q hb
      have h3 : L0 b = some q := by
       cases og with
       | none => exact h1
       | some g0 =>
        have hne : b ≠ g0 := by rintro rfl; exact h2 id (by rw [hq]; rfl) hid
        simpa [updo, upd_ne _ _ _ _ hne] using h1
      refine ⟨h3, fun i hi => ?_⟩
      simp only at hi
      rw [fi] at hi
      by_cases a1 : i = id
      ·rw [if_pos a1] at hi; cases hi
      ·rw [if_neg a1] at hi
       rw [set_ne _ _ a1]
       exact h2 i (by simpa using hi)
     ·obtain ⟨p1, p2, e', ap', cs', p3⟩ := hR.pin hp
      have hne : 0 ≠ id := by
       rintro rfl
       rw [hq] at p3; cases p3
      refine ⟨by rw [set_ne _ _ hne]; exact p1, p2, e', ap', dropC id cs', ?_⟩
      show findR (dropH id (delR S.h id)) 0 = _
      rw [fi, if_neg hne, p3]
      rfl
    rcases hsl with ⟨g0, hid, ht⟩ | ⟨hid, hn0, -, ht⟩
    ·obtain ⟨row, hL, hrow⟩ := (hR.rw id _ hq).some_g hid
     simp only [RRow] at hrow
     refine go (del L g0) (some g0) row ?_ (by rw [hrow]) (fun g' h => by obtain rfl := Option.some.inj h; simp [del]) hid (by rw [ht]; simp [hv]) (fun h => by cases h)
     funext b'
     simp only [updo, upd, del]
     split
     ·rename_i hb'; rw [hb', hL]
     ·rfl
    ·exact go L none ⟨0, true, vecOf n sz fun i => toAVL (f i)⟩ rfl rfl (fun g' h => by cases h) hid (by rw [ht]; rfl) (fun _ => ⟨by rw [hn0]; simp [vecOf], hn0⟩)
   ·cases h
  ·cases h
 ·rename_i hl
  simp only [Option.some.injEq, Prod.mk.injEq] at h
  obtain ⟨-, rfl⟩ := h
  have hsl := hR.sl d
  rw [hl] at hsl
  simp only [RV] at hsl
  refine JO.retell (t' := t.putO (some d) (.fz 0 (vecOf 0 1 fun _ => toAVL [.v (.p (.string ⟨#[]⟩))]))) (L' := L) (fun b hb => hb) (fun w hw => ⟨hw, fun i x hx => ?_⟩) (K ρ _ L (Rel.put hR (some d) (by simp only [RV, toAV])))
  show VS L w ((t.put d (.fz 0 (vecOf 0 1 fun _ => toAVL [.v (.p (.string ⟨#[]⟩))]))) i) x
  unfold TM.put
  split
  ·rename_i hi
   rw [hi, hsl] at hx
   simp only [VS] at hx ⊢
   subst hx
   exact ⟨none, 0, [], rfl, Nat.le_refl _, .inl rfl, by simp [vecOf, VSL]⟩
  ·exact hx
 ·simp only [Option.some.injEq, Prod.mk.injEq] at h
  obtain ⟨-, rfl⟩ := h
  exact K ρ t L hR
 ·cases h
theorem frzArgs_ok {P : Program} {N : Nat} {ops : Array Oper} {Q : Exit → TM → GH → Prop} {os : List Oper} {F : Fr} : ∀ (l : List Operand) (S : XS) (cs : List Prop) (S' : XS) (ρ : Rho) (t : TM) (L : GH), frzArgs l S = some (cs, S') → (∀ p ∈ cs, p) → Rel F ρ S t L → (∀ ρ' t' L', Rel F ρ' S' t' L' → JO P N ops Q os t' L') → JO P N ops Q os t L
 | [], S, cs, S', ρ, t, L, h, hc, hR, K => by
  simp only [frzArgs, Option.some.injEq, Prod.mk.injEq] at h
  obtain ⟨rfl, rfl⟩ := h
  exact K ρ t L hR
 | x :: l, S, cs, S', ρ, t, L, h, hc, hR, K => by
  unfold frzArgs at h
  split at h
  ·rename_i he
   cases he
  ·rename_i d l' S0 he
   cases he
   split at h
   ·split at h
    ·rename_i cs1 S1 h1
     split at h
     ·rename_i cs2 S2 h2
      simp only [Option.some.injEq, Prod.mk.injEq] at h
      obtain ⟨rfl, rfl⟩ := h
      exact xfrzO_ok h1 (allL hc) hR fun ρ' t' L' hR' => frzArgs_ok l S1 cs2 S2 ρ' t' L' h2 (allR hc) hR' K
     ·cases h
    ·cases h
   ·exact frzArgs_ok l _ cs S' ρ t L h hc hR K
  ·rename_i x' l' S0 _ he
   cases he
   exact frzArgs_ok l _ cs S' ρ t L h hc hR K
theorem callA_ok {P : Program} {N : Nat} {ops : Array Oper} {Q : Exit → TM → GH → Prop} {os : List Oper} {F : Fr} {op : Op} {S S' : XS} {ρ : Rho} {t : TM} {L : GH} {X : Cx} {cs : List Prop} (h : callA X S op = some (cs, S')) (hc : ∀ p ∈ cs, p) (hR : Rel F ρ S t L) (K : ∀ ρ' t' L', Rel F ρ' S' t' L' → JO P N ops Q os t' L') : JO P N ops Q os t L := by
 unfold callA at h
 split at h
 ·split at h
  ·exact frzArgs_ok _ _ _ _ _ _ _ h hc hR K
  ·cases h
 ·cases h
theorem xgo_ok {X : Cx} (hX : X.ok P) : ∀ (os : List Oper) (S : XS) (G : List (Nat × Bool)) (K : XS → Prop) (ρ : Rho) (t : TM) (L : GH), xgo X N ops.toList os S G K → Rel F ρ S t L → GA ops.toList S.s G →
  (∀ ρ' S' t' L', Rel F ρ' S' t' L' → K S' → Q .normal t' L') → JO P N ops Q os t L
 | [], S, G, K, ρ, t, L, h, hR, _, hK => JO.nil (hK ρ S t L hR h)
 | ⟨d, op, ty, pos, af, gd⟩ :: os, S, G, K, ρ, t, L, h, hR, hG, hK => by
  unfold xgo at h
  split at h
  ·exact h.elim
  ·rename_i hd0
   have hd := xdok_eq hd0
   simp only at h
   cases gd with
   | none =>
    simp only at h
    split at h
    ·rename_i cs v w hs
     split at h
     ·rename_i hwd
      obtain ⟨hc, h⟩ := andK_all _ _ h
      unfold xstep at hs
      obtain ⟨v', W, hv, hw, hj⟩ := xop_ok (P := P) (N := N) (ops := ops) (d := d) (ty := ty) (pos := pos) (af := af) (rows := rowsOf ρ L) (val := ev t) hX (fun x _ hc => st_okO hR hG (fun k g h => by cases h) hc)
       (fun c a b hop tb hc hv => pick_ok hR hG (fun k g h => by cases h) c a b hop tb hc hv) (fun id _ r hf g hg => RRow.rows (L := L) hR.rw (rowsOf_ok hR) id r hf g hg) hs hc hd (fun T x y e => by
        subst e
        cases d with
        | none => rfl
        | some d => cases hwd)
      refine hj t L (fun _ _ => rfl) (fun id _ g hg hf => rowsOf_ok hR id g hg hf) Q os ?_
      have hR2 := hR.step d hv hw (fun id r e => by subst e; exact ⟨(xop_wr hs).1, (xop_wr hs).2.2⟩)
      refine xgo_ok hX os _ _ K ρ _ _ h hR2 ?_ hK
      rw [wr_s, put_s]
      cases d with
      | none => exact hG
      | some d =>
       refine hG.put fun c k x e g hk => ?_
       subst e
       cases op <;> cases hwd
     ·exact h.elim
    ·split at h
     ·rename_i cs v S' hn
      obtain ⟨hc, h⟩ := andK_all _ _ h
      exact xnew_ok hX hn hc hR hd fun ρ' t' L' hR' => xgo_ok hX os _ _ K ρ' t' L' h hR' (GA.nil _ _) hK
     ·split at h
      ·rename_i cs0 S1 hA
       split at h
       ·rename_i cs v hs
        split at h
        ·rename_i hwd
         obtain ⟨hc0, h⟩ := andK_all _ _ h
         obtain ⟨hc, h⟩ := andK_all _ _ h
         refine callA_ok hA hc0 hR fun ρ1 t1 L1 hR1 => ?_
         unfold xstep at hs
         have hG1 : GA ops.toList S1.s [] := GA.nil _ _
         obtain ⟨v', W, hv, hw, hj⟩ := xop_ok (P := P) (N := N) (ops := ops) (d := d) (ty := ty) (pos := pos) (af := af) (rows := rowsOf ρ1 L1) (val := ev t1) hX (fun x _ hc => st_okO hR1 hG1 (fun k g h => by cases h) hc)
          (fun c a b hop tb hc hv => pick_ok hR1 hG1 (fun k g h => by cases h) c a b hop tb hc hv) (fun id _ r hf g hg => RRow.rows (L := L1) hR1.rw (rowsOf_ok hR1) id r hf g hg) hs hc hd (fun T x y e => by
           subst e
           cases d with
           | none => rfl
           | some d => cases hwd)
         cases W with
         | some W => exact hw.elim
         | none =>
          refine hj t1 L1 (fun _ _ => rfl) (fun id _ g hg hf => rowsOf_ok hR1 id g hg hf) Q os ?_
          exact xgo_ok hX os _ _ K ρ1 _ _ h (hR1.put d hv) (GA.nil _ _) hK
        ·exact h.elim
       ·exact h.elim
      ·exact xcallL_ok hX h hR hd fun v ρ' S' t' L' h hR' => xgo_ok hX os _ _ K ρ' t' L' h hR' (GA.nil _ _) hK
   | some gd =>
    obtain ⟨j, b⟩ := gd
    simp only at h
    split at h
    ·rename_i g k G' d hg
     obtain ⟨hgo, hG', hgk⟩ := xguard_ok hG hg
     split at h
     ·rename_i cs v hs
      obtain ⟨hc, h⟩ := andK_all _ _ h
      unfold xstep at hs
      have hput : ∀ b, RV ρ (.gd g k v) b → JO P N ops Q os (t.put d b) L := fun b hb =>
       xgo_ok hX os _ _ K ρ _ _ h (hR.put (some d) hb) (hG'.put fun c k' x e g' hk => by
        injection e with e1 e2 e3
        subst e1
        exact (hgk k' e2 g' hk).symm) hK
      refine guard_ok (S := S) (fun _ s _ _ => hR.sl s) hgo hd (fun hg1 => ?_) (fun hg0 => hput _ (by simp only [RV]; exact ⟨fun h => (by rw [hg0] at h; cases h), fun _ => trivial⟩))
      have hkk : ∀ k1 g1, k = some k1 → fnd G' k1 = some g1 → g1 = true := fun k1 g1 e1 e2 => by rw [hgk k1 e1 g1 (fnd_mem _ _ _ e2)]; exact hg1
      obtain ⟨v', W, hv, hw, hj⟩ := xop_ok (P := P) (N := N) (ops := ops) (d := some d) (ty := ty) (pos := pos) (af := af) (rows := rowsOf ρ L) (val := ev t) hX (fun x _ hc => st_okO hR hG' hkk hc)
       (fun c a b hop tb hc hv => pick_ok hR hG' hkk c a b hop tb hc hv) (fun id _ r hf g hg => RRow.rows (L := L) hR.rw (rowsOf_ok hR) id r hf g hg) hs (fun p hp => hc _ (List.mem_map_of_mem hp) hg1) hd (fun T x y e => by subst e; exact absurd rfl (store_wr hs))
      cases W with
      | some W => exact hw.elim
      | none => exact hj t L (fun _ _ => rfl) (fun id _ g hg hf => rowsOf_ok hR id g hg hf) Q os (hput v' (by simp only [RV]; exact ⟨fun _ => hv, fun h => (by rw [hg1] at h; cases h)⟩))
     ·exact h.elim
    ·exact h.elim
def DA (s : List (Nat × XV)) (D : DT) : Prop := ∀ d g, fnd D d = some g → look s d = match g with
 | some b => .v (.p (.bool b))
 | none => .v (.p undef)
theorem DA.nil (s : List (Nat × XV)) : DA s [] := fun d g h => by cases h
theorem fnd_dropD (d : Nat) : ∀ (D : DT) (i : Nat), fnd (dropD d D) i = if i = d then none else fnd D i
 | [], i => by simp [dropD, fnd]
 | (k, g) :: D, i => by
  simp only [dropD, beqN]
  by_cases hk : k = d
  ·rw [decide_eq_true hk, cond_true, fnd_dropD d D i]
   by_cases hi : i = d
   ·rw [if_pos hi, if_pos hi]
   ·rw [if_neg hi, if_neg hi]
    simp only [fnd, beqN]
    rw [decide_eq_false (by omega), cond_false]
  ·rw [decide_eq_false hk, cond_false]
   simp only [fnd, beqN]
   by_cases hi : i = k
   ·rw [decide_eq_true hi, cond_true, cond_true, if_neg (by omega)]
   ·rw [decide_eq_false hi, cond_false, cond_false, fnd_dropD d D i]
theorem DA.put {s : List (Nat × XV)} {D : DT} (h : DA s D) (d : Nat) (v : XV) : DA ((d, v) :: s) (dropD d D) := by
 intro i g hi
 rw [fnd_dropD] at hi
 by_cases hd : i = d
 ·rw [if_pos hd] at hi; cases hi
 ·rw [if_neg hd] at hi
  rw [look_put, if_neg hd]
  exact h i g hi
theorem DA.add {s : List (Nat × XV)} {D : DT} (h : DA s D) (d : Nat) (g : Option Bool) (v : XV) (hv : v = match g with | some b => .v (.p (.bool b)) | none => .v (.p undef)) : DA ((d, v) :: s) ((d, g) :: dropD d D) := by
 intro i g' hi
 simp only [fnd, beqN] at hi
 by_cases hd : i = d
 ·rw [decide_eq_true hd, cond_true] at hi
  obtain rfl := Option.some.inj hi
  rw [look_put, if_pos hd]
  exact hv
 ·rw [decide_eq_false hd, cond_false, fnd_dropD, if_neg hd] at hi
  rw [look_put, if_neg hd]
  exact h i g' hi
theorem JO.offN {j s : Nat} {b : Bool} {pos : String} (hs : s < N) (hj : (ops[j]?).bind (·.dst) = some s) (ht : t s = .p undef ∨ ∃ c, t s = .p (.bool c) ∧ (c == b) = false) (h : JO P N ops Q os t L) :
  JO P N ops Q (⟨none, op, ty, pos, af, some (j, b)⟩ :: os) t L := by
 intro ro L0 w0 a w he sm
 have hv := sm.tm s
 have hsz : s < a.tmps.size := by rw [sm.size]; exact hs
 have hw : Region.wanted ⟨none, op, ty, pos, af, some (j, b)⟩ (yielded ops a.tmps) = false := by
  rcases ht with ht | ⟨c, ht, hc⟩
  ·rw [ht] at hv
   simp only [VS] at hv
   have h2 : a.tmps[s]? = some undef := by
    rw [Array.getD_eq_getD_getElem?, Array.getElem?_eq_getElem hsz] at hv
    rw [Array.getElem?_eq_getElem hsz]
    simpa using hv
   simp [Region.wanted, yielded, hj, h2, undef]
  ·rw [ht] at hv
   simp only [VS] at hv
   have h2 : a.tmps[s]? = some (.bool c) := by
    rw [Array.getD_eq_getD_getElem?, Array.getElem?_eq_getElem hsz] at hv
    rw [Array.getElem?_eq_getElem hsz]
    simpa using hv
   simp [Region.wanted, yielded, hj, h2, hc]
 unfold wpListIn
 rw [if_neg (by rw [hw]; simp)]
 exact And.intro (fun _ _ => trivial) <| h ro L0 w0 a w he sm
theorem xrun1_ok {X : Cx} (hX : X.ok P) {D : DT} {K : XS → DT → Prop} (h : xrun1 X ops.toList S D ⟨d, op, ty, pos, af, none⟩ K) (hR : Rel F ρ S t L) (hD : DA S.s D) (hd : dok N d = true)
  (hK : ∀ ρ' S' t' L' D', K S' D' → Rel F ρ' S' t' L' → DA S'.s D' → JO P N ops Q os t' L') : JO P N ops Q (⟨d, op, ty, pos, af, none⟩ :: os) t L := by
 unfold xrun1 at h
 have dput : ∀ v, DA (S.put d v).s (dropDo d D) := by
  intro v
  cases d with
  | none => exact hD
  | some d => exact hD.put d v
 split at h
 ·rename_i x hx
  simp only at h
  split at h
  ·obtain ⟨hc, h⟩ := andK_all _ _ h
   have hv := st_none (xev_ok hR x) hc
   simp only at hx
   unfold dpick at hx
   have go : ∀ (s : Nat) (a b : Operand) (c : Bool), op = .pick (.tmp s) a b → fnd D s = some (some c) → x = (if c then a else b) → JO P N ops Q (⟨d, op, ty, pos, af, none⟩ :: os) t L := by
    intro s a b c hop hf hxx
    have hs := hR.sl s
    rw [hD s _ hf] at hs
    simp only [RV] at hs
    subst hop
    refine JO.pure (v := ev t x) ?_ hd (hK _ _ _ _ _ h (hR.put d hv) (dput _))
    have he : ev t (.tmp s) = .p (.bool c) := hs
    simp only [YtaglpckihegmoaaDoorAv.fv, he]
    cases c <;> simp [hxx]
   split at hx
   ·rename_i s a b
    split at hx
    ·rename_i hf
     obtain rfl := Option.some.inj hx
     exact go s _ b true rfl hf rfl
    ·rename_i hf
     obtain rfl := Option.some.inj hx
     exact go s a _ false rfl hf rfl
    ·cases hx
   ·cases hx
  ·exact h.elim
 ·split at h
  ·rename_i cs v w hs
   split at h
   ·rename_i hwd
    obtain ⟨hc, h⟩ := andK_all _ _ h
    unfold xstep at hs
    have hG := GA.nil ops.toList S.s
    obtain ⟨v', W, hv, hw, hj⟩ := xop_ok (P := P) (N := N) (ops := ops) (d := d) (ty := ty) (pos := pos) (af := af) (rows := rowsOf ρ L) (val := ev t) hX (fun x _ hc => st_okO hR hG (fun k g h => by cases h) hc)
     (fun c a b hop tb hc hv => pick_ok hR hG (fun k g h => by cases h) c a b hop tb hc hv) (fun id _ r hf g hg => RRow.rows (L := L) hR.rw (rowsOf_ok hR) id r hf g hg) hs hc hd (fun T x y e => by
      subst e
      cases d with
      | none => rfl
      | some d => cases hwd)
    refine hj t L (fun _ _ => rfl) (fun id _ g hg hf => rowsOf_ok hR id g hg hf) Q os ?_
    have hR2 := hR.step d hv hw (fun id r e => by subst e; exact ⟨(xop_wr hs).1, (xop_wr hs).2.2⟩)
    exact hK _ _ _ _ _ h hR2 (by rw [wr_s]; exact dput v)
   ·exact h.elim
  ·split at h
   ·rename_i cs v S' hn
    obtain ⟨hc, h⟩ := andK_all _ _ h
    exact xnew_ok hX hn hc hR hd fun ρ' t' L' hR' => hK _ _ _ _ _ h hR' (DA.nil _)
   ·exact xcallL_ok hX h hR hd fun v ρ' S' t' L' h hR' => hK _ _ _ _ _ h hR' (DA.nil _)
theorem xoff_ok {D : DT} {K : XS → DT → Prop} {j s : Nat} {b : Bool} (h : xoff S D ⟨d, op, ty, pos, af, some (j, b)⟩ K) (hR : Rel F ρ S t L) (hD : DA S.s D) (hd : dok N d = true) (hs : s < N) (hj : (ops[j]?).bind (·.dst) = some s)
  (ht : t s = .p undef ∨ ∃ c, t s = .p (.bool c) ∧ (c == b) = false)
  (hK : ∀ ρ' S' t' L' D', K S' D' → Rel F ρ' S' t' L' → DA S'.s D' → JO P N ops Q os t' L') : JO P N ops Q (⟨d, op, ty, pos, af, some (j, b)⟩ :: os) t L := by
 cases d with
 | none => exact JO.offN hs hj ht (hK _ _ _ _ _ h hR hD)
 | some d =>
  have hdN : d < N := dok_lt hd d rfl
  have k := hK _ _ _ _ _ h (hR.put (some d) (v := .v (.p undef)) (b := .p undef) (by simp [RV])) (hD.add d none _ rfl)
  rcases ht with ht | ⟨c, ht, hc⟩
  ·exact JO.offU hdN hs hj ht k
  ·exact JO.off hdN hs hj ht hc k
theorem xgf_ok {X : Cx} (hX : X.ok P) {m : Bool} : ∀ (os : List Oper) (S : XS) (D : DT) (K : XS → Prop) (ρ : Rho) (t : TM) (L : GH), xgf X N ops.toList m os S D K → Rel F ρ S t L → DA S.s D →
  (∀ ρ' S' t' L', Rel F ρ' S' t' L' → K S' → Q .normal t' L') → JO P N ops Q os t L
 | [], S, D, K, ρ, t, L, h, hR, _, hK => JO.nil (hK ρ S t L hR h)
 | ⟨d, op, ty, pos, af, gd⟩ :: os, S, D, K, ρ, t, L, h, hR, hD, hK => by
  unfold xgf at h
  split at h
  ·exact h.elim
  ·rename_i hd0
   have hd := xdok_eq hd0
   have next : ∀ ρ' S' t' L' D', xgf X N ops.toList m os S' D' K → Rel F ρ' S' t' L' → DA S'.s D' → JO P N ops Q os t' L' := fun ρ' S' t' L' D' h hR hD => xgf_ok hX os S' D' K ρ' t' L' h hR hD hK
   simp only at h
   cases gd with
   | none => exact xrun1_ok hX h hR hD hd next
   | some gd =>
    obtain ⟨j, b⟩ := gd
    simp only at h
    split at h
    ·exact h.elim
    ·rename_i s hsl
     have hj : (ops[j]?).bind (·.dst) = some s := by
      unfold slotOf at hsl
      split at hsl
      ·rename_i hn; exact nth_bind hn hsl
      ·cases hsl
     split at h
     ·exact h.elim
     ·rename_i hs0 hf
      rw [bltN, decide_eq_true_eq] at hs0
      have hs := hR.sl s
      rw [hD s _ hf] at hs
      simp only [RV] at hs
      exact xoff_ok h hR hD hd hs0 hj (.inl hs) next
     ·rename_i c hs0 hf
      rw [bltN, decide_eq_true_eq] at hs0
      have hs := hR.sl s
      rw [hD s _ hf] at hs
      simp only [RV] at hs
      split at h
      ·rename_i he
       exact JO.on hs0 hj hs (by revert he; cases c <;> cases b <;> decide) (xrun1_ok hX h hR hD hd next)
      ·rename_i he
       exact xoff_ok h hR hD hd hs0 hj (.inr ⟨c, hs, by revert he; cases c <;> cases b <;> decide⟩) next
     ·rename_i hs0 hf
      rw [bltN, decide_eq_true_eq] at hs0
      split at h
      ·rename_i c hl
       have hs := hR.sl s
       rw [hl] at hs
       simp only [RV] at hs
       have put' : ∀ c', c = c' → Rel F ρ (S.put (some s) (.v (.p (.bool c')))) t L := by
        rintro c' rfl
        have := hR.put (some s) (v := .v (.p (.bool c))) (b := .p (.bool c)) (by simp [RV])
        have e : t.putO (some s) (.p (.bool c)) = t := by
         funext i
         simp only [TM.putO, TM.put]
         split
         ·rename_i hi; rw [hi, hs]
         ·rfl
        rw [e] at this
        exact this
       split at h
       ·split at h
        ·split at h
         ·exact JO.on hs0 hj hs rfl (xrun1_ok hX h (put' _ rfl) (hD.add s (some true) _ rfl) hd next)
         ·exact xoff_ok h (put' _ rfl) (hD.add s (some true) _ rfl) hd hs0 hj (.inr ⟨_, hs, rfl⟩) next
        ·split at h
         ·exact xoff_ok h (put' _ rfl) (hD.add s (some false) _ rfl) hd hs0 hj (.inr ⟨_, hs, rfl⟩) next
         ·exact JO.on hs0 hj hs rfl (xrun1_ok hX h (put' _ rfl) (hD.add s (some false) _ rfl) hd next)
       obtain ⟨h1, h2⟩ := h
       by_cases hcb : c = b
       ·have hR' : Rel F ρ (S.put (some s) (.v (.p (.bool b)))) t L := by
         have := hR.put (some s) (v := .v (.p (.bool b))) (b := .p (.bool b)) (by simp [RV])
         have e : t.putO (some s) (.p (.bool b)) = t := by
          funext i
          simp only [TM.putO, TM.put]
          split
          ·rename_i hi; rw [hi, hs, hcb]
          ·rfl
         rw [e] at this
         exact this
        exact JO.on hs0 hj hs (by rw [hcb]; simp) (xrun1_ok hX (h1 hcb) hR' (hD.add s (some b) _ rfl) hd next)
       ·have hcb' : c = !b := by cases c <;> cases b <;> simp_all
        have hR' : Rel F ρ (S.put (some s) (.v (.p (.bool (!b))))) t L := by
         have := hR.put (some s) (v := .v (.p (.bool (!b)))) (b := .p (.bool (!b))) (by simp [RV])
         have e : t.putO (some s) (.p (.bool (!b))) = t := by
          funext i
          simp only [TM.putO, TM.put]
          split
          ·rename_i hi; rw [hi, hs, hcb']
          ·rfl
         rw [e] at this
         exact this
        exact xoff_ok (h2 hcb') hR' (hD.add s (some (!b)) _ rfl) hd hs0 hj (.inr ⟨c, hs, by rw [hcb']; cases b <;> rfl⟩) next
      ·exact h.elim
end
end Go.Proofs.YtaglpckihegmoaaDoorAv
namespace Go.Proofs.YtaglpckihegmoaaDoorAv
open Go Go.RowKit
section
variable {P : Program} {N : Nat} {ops : Array Oper} {Q : Exit → TM → GH → Prop} {d : Option Nat} {ty : TypeId} {pos : String} {af : Array Edge} {op : Op} {ρ : Rho} {F : Fr} {S S' : XS} {t : TM} {L : GH} {v : XV} {os : List Oper}
theorem st_snd {G G' : List (Nat × Bool)} {k k' : Option Nat} (y : XV) : (y.st G k).2 = (y.st G' k').2 := by
 cases y with
 | gd c q x => simp only [XV.st]; split <;> split <;> rfl
 | _ => rfl
theorem touch_eq {G : List (Nat × Bool)} {k : Option Nat} (s : List (Nat × XV)) (op : Op) : touchX (fun x => (xev s x).st G k) op = touch s op := by
 cases op with
 | call c =>
  simp only [touchX, touch]
  cases c.args.toList with
  | nil => rfl
  | cons x l => cases l with
   | nil => simp only; rw [st_snd (G := G) (k := k) (G' := []) (k' := none)]
   | cons y l => simp only; rw [st_snd (G := G) (k := k) (G' := []) (k' := none), st_snd (G := G) (k := k) (G' := []) (k' := none) (xev s y)]
 | load T x => simp only [touchX, touch]; rw [st_snd (G := G) (k := k) (G' := []) (k' := none)]
 | store T x y => simp only [touchX, touch]; rw [st_snd (G := G) (k := k) (G' := []) (k' := none)]
 | slice T x _ _ _ => simp only [touchX, touch]; rw [st_snd (G := G) (k := k) (G' := []) (k' := none)]
 | convert S T x => simp only [touchX, touch]; rw [st_snd (G := G) (k := k) (G' := []) (k' := none)]
 | _ => rfl
theorem rst_ev {o : Oper} {x : Operand} (hx : x ∈ o.op.operands.toList) (t : TM) : ev (rst (o.looksAt ops) t) x = ev t x := by
 cases x with
 | tmp n =>
  simp only [ev]
  rw [rst_at, if_pos]
  simp only [Oper.looksAt, List.contains_eq_mem, List.mem_append, decide_eq_true_eq]
  exact .inl (List.mem_filterMap.2 ⟨.tmp n, hx, rfl⟩)
 | _ => rfl
theorem rst_guard {o : Oper} {j s : Nat} {b : Bool} {og : Oper} (hg : o.guard = some (j, b)) (hn : nth ops.toList j = some og) (hd : og.dst = some s) (t : TM) : (rst (o.looksAt ops) t) s = t s := by
 rw [rst_at, if_pos]
 simp only [Oper.looksAt, List.contains_eq_mem, List.mem_append, decide_eq_true_eq, hg]
 right
 rw [nth_bind hn hd]
 simp
def gOf : Option (Option Nat) → Nat
 | some (some g) => g
 | _ => 0
def bnd (ρ : Rho) : Nat → Nat
 | 0 => 1
 | n + 1 => bnd ρ n + gOf (ρ n)
theorem bnd_lt {ρ : Rho} {x g : Nat} (h : ρ x = some (some g)) : ∀ {n : Nat}, x < n → g < bnd ρ n
 | 0, hx => by omega
 | n + 1, hx => by
  simp only [bnd]
  have pos : ∀ n, 0 < bnd ρ n := by
   intro n
   induction n with
   | zero => simp [bnd]
   | succ n ih => simp only [bnd]; omega
  by_cases hn : x = n
  ·subst hn
   rw [h]
   have := pos x
   simp only [gOf]
   omega
  ·have := bnd_lt h (n := n) (by omega)
   omega
def tbOf (ρ : Rho) (n : Nat) : Nat → Nat := fun id => match ρ id with
 | some (some g) => g
 | _ => bnd ρ n + id
theorem tbOf_inj (hR : Rel F ρ S t L) {x y : Nat} (hx : (findR S.h x).isSome = true) (hy : (findR S.h y).isSome = true) (h : tbOf ρ S.nx x = tbOf ρ S.nx y) : x = y := by
 have dom : ∀ z, (findR S.h z).isSome = true → z < S.nx := by
  intro z hz
  rcases Nat.lt_or_ge z S.nx with hl | hl
  ·exact hl
  ·cases hf : findR S.h z with
   | none => rw [hf] at hz; cases hz
   | some r =>
    rcases hR.rw z r hf with ⟨g, row, h1, _⟩ | ⟨h1, _⟩ <;> rw [hR.nx z hl] at h1 <;> cases h1
 have hxn := dom x hx
 have hyn := dom y hy
 unfold tbOf at h
 split at h
 ·rename_i g hg
  split at h
  ·rename_i g' hg'
   subst h
   exact hR.inj x y _ hx hy hg hg'
  ·have := bnd_lt hg hxn
   omega
 ·split at h
  ·rename_i g' hg'
   have := bnd_lt hg' hyn
   omega
  ·omega
def annOk (ρ : Rho) (h : List (Nat × XRow)) (a : List Nat × Option Nat) : Prop :=
 (∀ x, x ∈ a.1 ∨ a.2 = some x → (findR h x).isSome = true) ∧ ∀ x, a.2 = some x → ∃ g, ρ x = some (some g)
theorem wr_dom (S : XS) (w : Option (Nat × XRow)) (hw : ∀ id r, w = some (id, r) → (findR S.h id).isSome = true) (x : Nat) : (findR (S.wr w).h x).isSome = (findR S.h x).isSome := by
 cases w with
 | none => rfl
 | some w =>
  obtain ⟨id, r⟩ := w
  simp only [XS.wr]
  rw [findR_put, findR_del]
  by_cases hx : x = id
  ·rw [if_pos hx, hx, hw id r rfl]; rfl
  ·rw [if_neg hx, if_neg hx]
theorem put_h (S : XS) (d : Option Nat) (v : XV) : (S.put d v).h = S.h := by cases d <;> rfl
theorem thereB_mem {h : List (Nat × XRow)} : ∀ {l : List Nat} {x : Nat}, x ∈ thereB h l ↔ x ∈ l ∧ (findR h x).isSome = true
 | [], x => by simp [thereB]
 | id :: l, x => by
  simp only [thereB]
  split
  ·rename_i r hr
   rw [List.mem_cons, thereB_mem, List.mem_cons]
   constructor
   ·rintro (rfl | ⟨h1, h2⟩)
    ·exact ⟨.inl rfl, by rw [hr]; rfl⟩
    ·exact ⟨.inr h1, h2⟩
   ·rintro ⟨rfl | h1, h2⟩
    ·exact .inl rfl
    ·exact .inr ⟨h1, h2⟩
  ·rename_i hr
   rw [thereB_mem, List.mem_cons]
   constructor
   ·rintro ⟨h1, h2⟩; exact ⟨.inr h1, h2⟩
   ·rintro ⟨rfl | h1, h2⟩
    ·rw [hr] at h2; cases h2
    ·exact ⟨h1, h2⟩
theorem xdr_ok {X : Cx} (hX : X.ok P) (n : Nat) : ∀ (os : List Oper) (S : XS) (G : List (Nat × Bool)) (acc : List (List Nat × Option Nat)) (K : XS → List (List Nat × Option Nat) → Prop) (t : TM) (L : GH), xdr X N ops.toList os S G acc K → Rel F ρ S t L → GA ops.toList S.s G →
  ∃ ann S' t' L', ann.length = os.length ∧ JN P N ops (tbOf ρ n) os ann t L (fun t2 L2 => t2 = t' ∧ L2 = L') ∧ Rel F ρ S' t' L' ∧ K S' (ann.reverse ++ acc) ∧ (∀ a ∈ ann, annOk ρ S.h a) ∧ (os.all fun o => dok N o.dst) = true
 | [], S, G, acc, K, t, L, h, hR, _ => ⟨[], S, t, L, rfl, ⟨rfl, rfl⟩, hR, h, by simp, rfl⟩
 | ⟨d, op, ty, pos, af, gd⟩ :: os, S, G, acc, K, t, L, h, hR, hG => by
  unfold xdr at h
  split at h
  ·exact h.elim
  ·rename_i hd0
   have hd := xdok_eq hd0
   simp only at h
   have tbg : ∀ id g, ρ id = some (some g) → tbOf ρ n id = g := fun id g hg => by simp [tbOf, hg]
   have annT : ∀ {X : Cx} {G : List (Nat × Bool)} {k : Option Nat} {eT eF : Operand → List Prop × XV} {cs : List Prop} {v : XV} {w : Option (Nat × XRow)} {W : Option (Nat × Row)}, xop X S.h (fun x => (xev S.s x).st G k) eT eF op = some (cs, v, w) → WRel ρ w W →
     annOk ρ S.h (thereB S.h (touch S.s op), w.map (·.1)) := by
    intro X G k eT eF cs v w W hs hw
    refine ⟨fun x hx => ?_, fun x hx => ?_⟩
    ·rcases hx with hx | hx
     ·exact (thereB_mem.1 hx).2
     ·cases w with
      | none => cases hx
      | some w =>
       obtain ⟨id, r⟩ := w
       obtain rfl := Option.some.inj hx
       exact (xop_wr hs).1
    ·cases w with
     | none => cases hx
     | some w =>
      cases W with
      | none => obtain ⟨a, b⟩ := w; exact hw.elim
      | some W =>
       obtain ⟨id, r⟩ := w
       obtain ⟨g, row⟩ := W
       obtain rfl := Option.some.inj hx
       exact ⟨g, hw.1⟩
   have wtb : ∀ {w : Option (Nat × XRow)} {W : Option (Nat × Row)}, WRel ρ w W → W.map (·.1) = (w.map (·.1)).map (tbOf ρ n) := by
    intro w W hw
    cases w with
    | none => cases W with
     | none => rfl
     | some W => exact hw.elim
    | some w => cases W with
     | none => obtain ⟨a, b⟩ := w; exact hw.elim
     | some W =>
      obtain ⟨id, r⟩ := w
      obtain ⟨g, row⟩ := W
      simp only [Option.map_some]
      rw [tbg id g hw.1]
   cases gd with
   | none =>
    simp only at h
    split at h
    ·rename_i cs v w hs
     split at h
     ·rename_i hwd
      obtain ⟨hc, h⟩ := andK_all _ _ h
      unfold xstep at hs
      obtain ⟨v', W, hv, hw, hj⟩ := xop_ok (P := P) (N := N) (ops := ops) (d := d) (ty := ty) (pos := pos) (af := af) (rows := rowsOf ρ L) (val := ev t) hX (fun x _ hc => st_okO hR hG (fun k g h => by cases h) hc)
       (fun c a b hop tb hc hv => pick_ok hR hG (fun k g h => by cases h) c a b hop tb hc hv) (fun id _ r hf g hg => RRow.rows (L := L) hR.rw (rowsOf_ok hR) id r hf g hg) hs hc hd (fun T x y e => by
        subst e
        cases d with
        | none => rfl
        | some d => cases hwd)
      have hid : ∀ id r, w = some (id, r) → (findR S.h id).isSome = true ∧ ∀ e ap cs, findR S.h id = some (.one e ap cs) → ∃ e' ap' cs', r = .one e' ap' cs' := fun id r e => by subst e; exact ⟨(xop_wr hs).1, (xop_wr hs).2.2⟩
      have hR2 := hR.step d hv hw hid
      obtain ⟨ann, S', t', L', i1, i2, i3, i4, i5, i6⟩ := xdr_ok hX n os _ _ _ K _ _ h hR2 (by
       rw [wr_s, put_s]
       cases d with
       | none => exact hG
       | some d =>
        refine hG.put fun c k x e g hk => ?_
        subst e
        cases op <;> cases hwd)
      refine ⟨(thereB S.h (touch S.s op), w.map (fun p : Nat × XRow => p.1)) :: ann, S', t', L', by simp [i1], ⟨v', W, wtb hw, fun L1 hag => ?_, i2⟩, i3, by simpa using i4, fun a ha => ?_, by simp [hd, i6]⟩
      ·intro Q os' K'
       refine hj _ L1 (fun x hx => rst_ev (o := ⟨d, op, ty, pos, af, none⟩) hx t) (fun id hid2 g hg hf => ?_) Q os' K'
       have h3 := hag id (by simp only [List.headD_cons]; rw [touch_eq] at hid2; exact thereB_mem.2 ⟨hid2, hf⟩) (by rw [tbg id g hg, rowsOf_ok hR id g hg hf]; rfl)
       rw [tbg id g hg] at h3
       rw [h3]
       exact rowsOf_ok hR id g hg hf
      ·rcases List.mem_cons.1 ha with rfl | ha
       ·exact annT hs hw
       ·obtain ⟨a1, a2⟩ := i5 a ha
        refine ⟨fun x hx => ?_, a2⟩
        have := a1 x hx
        have e1 := wr_dom (S.put d v) w (fun id r e => by rw [put_h]; exact (hid id r e).1) x
        rw [e1, put_h] at this
        exact this
     ·exact h.elim
    ·exact h.elim
   | some gd =>
    obtain ⟨j, b⟩ := gd
    simp only at h
    split at h
    ·rename_i g k G' d hg
     obtain ⟨hgo, hG', hgk⟩ := xguard_ok hG hg
     split at h
     ·rename_i cs v hs
      obtain ⟨hc, h⟩ := andK_all _ _ h
      unfold xstep at hs
      have hput : ∀ b, RV ρ (.gd g k v) b → Rel F ρ (S.put (some d) (.gd g k v)) (t.put d b) L := fun b hb => hR.put (some d) hb
      have hGA : GA ops.toList (S.put (some d) (.gd g k v)).s (dropG ops.toList d G') := hG'.put fun c k' x e g' hk => by
        injection e with e1 e2 e3
        subst e1
        exact (hgk k' e2 g' hk).symm
      have hkk : g = true → ∀ k1 g1, k = some k1 → fnd G' k1 = some g1 → g1 = true := fun hg1 k1 g1 e1 e2 => by rw [hgk k1 e1 g1 (fnd_mem _ _ _ e2)]; exact hg1
      have hgR : ∀ o s, nth ops.toList j = some o → o.dst = some s → RV ρ (look S.s s) ((rst (Oper.looksAt ops ⟨some d, op, ty, pos, af, some (j, b)⟩) t) s) := fun o s h1 h2 => by
       rw [rst_guard (o := ⟨some d, op, ty, pos, af, some (j, b)⟩) rfl h1 h2]; exact hR.sl s
      -- the value, whichever the test
      obtain ⟨b', hb', hst⟩ : ∃ b', RV ρ (.gd g k v) b' ∧ ∀ L1, (∀ x ∈ thereB S.h (touch S.s op), (L (tbOf ρ n x)).isSome = true → L1 (tbOf ρ n x) = L (tbOf ρ n x)) → StepW P N ops ⟨some d, op, ty, pos, af, some (j, b)⟩ (rst (Oper.looksAt ops ⟨some d, op, ty, pos, af, some (j, b)⟩) t) L1 ((rst (Oper.looksAt ops ⟨some d, op, ty, pos, af, some (j, b)⟩) t).putO (some d) b') L1 := by
       cases hg1 : g with
       | false =>
        refine ⟨.p undef, by simp only [RV]; exact ⟨fun h => (by cases h), fun _ => trivial⟩, fun L1 _ Q os' K' => ?_⟩
        exact guard_ok (S := S) hgR hgo hd (fun h => by rw [hg1] at h; cases h) (fun _ => K')
       | true =>
        obtain ⟨v', W, hv, hw, hj⟩ := xop_ok (P := P) (N := N) (ops := ops) (d := some d) (ty := ty) (pos := pos) (af := af) (rows := rowsOf ρ L) (val := ev t) hX (fun x _ hc => st_okO hR hG' (hkk hg1) hc)
         (fun c a b hop tb hc hv => pick_ok hR hG' (hkk hg1) c a b hop tb hc hv) (fun id _ r hf g hg => RRow.rows (L := L) hR.rw (rowsOf_ok hR) id r hf g hg) hs (fun p hp => hc _ (List.mem_map_of_mem hp) hg1) hd (fun T x y e => by subst e; exact absurd rfl (store_wr hs))
        cases W with
        | some W => exact hw.elim
        | none =>
         refine ⟨v', by simp only [RV]; exact ⟨fun _ => hv, fun h => (by cases h)⟩, fun L1 hag Q os' K' => ?_⟩
         refine guard_ok (S := S) hgR hgo hd (fun _ => ?_) (fun h => by rw [hg1] at h; cases h)
         refine hj _ L1 (fun x hx => rst_ev (o := ⟨some d, op, ty, pos, af, some (j, b)⟩) hx t) (fun id hid2 g hg hf => ?_) Q os' K'
         have h3 := hag id (by rw [touch_eq] at hid2; exact thereB_mem.2 ⟨hid2, hf⟩) (by rw [tbg id g hg, rowsOf_ok hR id g hg hf]; rfl)
         rw [tbg id g hg] at h3
         rw [h3]
         exact rowsOf_ok hR id g hg hf
      obtain ⟨ann, S', t', L', i1, i2, i3, i4, i5, i6⟩ := xdr_ok hX n os _ _ _ K _ _ h (hput b' hb') hGA
      refine ⟨(thereB S.h (touch S.s op), none) :: ann, S', t', L', by simp [i1], ⟨b', none, ?_, fun L1 hag => hst L1 hag, i2⟩, i3, by simpa using i4, fun a ha => ?_, by simp [hd, i6]⟩
      ·rfl
      ·rcases List.mem_cons.1 ha with rfl | ha
       ·exact annT (W := none) hs trivial
       ·exact i5 a ha
     ·exact h.elim
    ·exact h.elim
def rowAl (X : Cx) (l : List Oper) (k : Nat) : Row := match l[k]? with
 | some ⟨_, .alloc T, _, _, _, _⟩ => match fnd X.I T with
  | some (z, _, _) => ⟨T, true, z.cells.toList.map AV.p⟩
  | none => ⟨0, true, []⟩
 | _ => ⟨0, true, []⟩
theorem xal_step {X : Cx} (hX : X.ok P) {l : List Oper} : ∀ (os : List Oper) (k : Nat) (S S2 : XS), (∀ i, i < os.length → os[i]? = l[k + i]?) → xal X N os S = some S2 → ∀ (i : Nat) (o : Oper), os[i]? = some o → isAl o = true → StepA P N ops o (dstAt l (k + i)) (rowAl X l (k + i))
 | [], _, _, _, _, _, i, o, h, _ => by simp at h
 | o :: os, k, S, S2, hl, hx, i, o', ho', ha => by
  unfold xal at hx
  split at hx
  ·rename_i d T hd hdk hop
   split at hx
   ·rename_i u z z1 z2 hu hi
    split at hx
    ·rename_i h3
     cases i with
     | zero =>
      obtain rfl : o = o' := by simpa using ho'
      have hlk : l[k]? = some o := by have := hl 0 (by simp); simpa using this.symm
      obtain ⟨od, oop, oty, opos, oaf, ogd⟩ := o
      simp only at hd hdk hop
      subst hd hop
      have hgd : ogd = none := by
       unfold isAl at ha
       split at ha
       ·rename_i heq
        simp only [Oper.mk.injEq] at heq
        exact heq.2.2.2.2.2
       ·cases ha
      subst hgd
      intro t L Q os' K
      have e1 : dstAt l (k + 0) = d := by unfold dstAt; rw [Nat.add_zero, hlk]; rfl
      have e2 : rowAl X l (k + 0) = ⟨T, true, z.cells.toList.map AV.p⟩ := by
       unfold rowAl
       rw [Nat.add_zero, hlk]
       simp only
       rw [hi]
      rw [e1, e2] at K
      exact R.alloc (okI_fnd hX.I hi) rfl (RVL.ones h3 (zcells_ok (fun _ => none) z)) (xdok_eq hdk) fun g hg => K g hg
     | succ i =>
      rw [show k + (i + 1) = k + 1 + i by omega]
      exact xal_step hX os (k + 1) _ S2 (fun j hj => by have := hl (j + 1) (by simpa using hj); rw [show k + 1 + j = k + (j + 1) by omega]; simpa using this) hx i o' (by simpa using ho') ha
    ·cases hx
   ·cases hx
  ·cases hx
theorem xal_ok {X : Cx} {l : List Oper} {σ : Nat → Nat} : ∀ (os : List Oper) (k : Nat) (S S2 : XS) (ρ : Rho) (t : TM) (L : GH), (∀ i, i < os.length → os[i]? = l[k + i]?) → xal X N os S = some S2 → Rel F ρ S t L →
  (∀ i, i < os.length → L (σ (k + i)) = none) → (∀ i j, i < os.length → j < os.length → σ (k + i) = σ (k + j) → i = j) → ∃ ρ2, Rel F ρ2 S2 (finT (dstAt l) σ k os.length t) (finL (rowAl X l) σ k os.length L)
 | [], k, S, S2, ρ, t, L, _, hx, hR, _, _ => by
  obtain rfl := Option.some.inj hx
  exact ⟨ρ, hR⟩
 | o :: os, k, S, S2, ρ, t, L, hl, hx, hR, hf, hij => by
  unfold xal at hx
  split at hx
  ·rename_i d T hd hdk hop
   split at hx
   ·rename_i u z z1 z2 hu hi
    split at hx
    ·rename_i h3
     have hlk : l[k]? = some o := by have := hl 0 (by simp); simpa using this.symm
     obtain ⟨od, oop, oty, opos, oaf, ogd⟩ := o
     simp only at hd hdk hop
     subst hd hop
     have e1 : dstAt l k = d := by unfold dstAt; rw [hlk]; rfl
     have e2 : rowAl X l k = ⟨T, true, z.cells.toList.map AV.p⟩ := by
      unfold rowAl
      rw [hlk]
      simp only
      rw [hi]
     have hg : L (σ k) = none := by simpa using hf 0 (by simp)
     have hR2 := Rel.put (Rel.new (r := .one T true (zcells z)) (row := ⟨T, true, z.cells.toList.map AV.p⟩) hR hg (by simp only [RRow]; exact ⟨trivial, trivial, zcells_ok _ z⟩)) (some d) (v := .ptr S.nx 0 0 0) (b := .ptr (σ k) 0) (by simp only [RV]; exact ⟨σ k, set_same _ _ _, by simp⟩)
     obtain ⟨ρ2, h2⟩ := xal_ok os (k + 1) _ S2 _ _ _ (fun j hj => by have := hl (j + 1) (by simpa using hj); rw [show k + 1 + j = k + (j + 1) by omega]; simpa using this) hx hR2 (fun i hi2 => by
       have hne : σ (k + 1 + i) ≠ σ k := fun e => by
        have := hij (i + 1) 0 (by simpa using hi2) (by simp) (by rw [show k + (i + 1) = k + 1 + i by omega, Nat.add_zero]; exact e)
        omega
       rw [upd_ne _ _ _ _ hne]
       have := hf (i + 1) (by simpa using hi2)
       rwa [show k + (i + 1) = k + 1 + i by omega] at this) (fun i j hi2 hj2 e => by
       have := hij (i + 1) (j + 1) (by simpa using hi2) (by simpa using hj2) (by rw [show k + (i + 1) = k + 1 + i by omega, show k + (j + 1) = k + 1 + j by omega]; exact e)
       omega)
     refine ⟨ρ2, ?_⟩
     rw [List.length_cons, finT, finL, e1, e2]
     exact h2
    ·cases hx
   ·cases hx
  ·cases hx
end
end Go.Proofs.YtaglpckihegmoaaDoorAv
namespace Go.Proofs.YtaglpckihegmoaaDoorAv
open Go Go.RowKit
theorem VM_eq {x y : XV} (h : VM x y) : x = y := by
 unfold VM at h
 split at h
 ·split at h
  ·rename_i hk; rw [kb_eq hk, h]
  ·exact h.elim
 ·rw [h]
 ·rw [h]
 ·exact h
theorem VML_eq : ∀ {l k : List XV}, VML l k → l = k
 | [], [], _ => rfl
 | x :: l, y :: k, h => by
  simp only [VML] at h
  rw [VM_eq h.1, VML_eq h.2]
 | [], _ :: _, h => by simp [VML] at h
 | _ :: _, [], h => by simp [VML] at h
def Rho.below (ρ : Rho) (n : Nat) : Rho := fun i => if i < n then ρ i else none
mutual
theorem RV.below {ρ : Rho} {n : Nat} : ∀ (x : XV) (b : AV), x.lt n = true → RV ρ x b → RV (ρ.below n) x b
 | .v a, b, _, k => by simpa [RV] using k
 | .sl i sz off m, b, hh, k => by
  simp only [XV.lt, bltN, decide_eq_true_eq] at hh
  simp only [RV] at k ⊢
  have e : (ρ.below n) i = ρ i := by unfold Rho.below; rw [if_pos hh]
  rw [e]; exact k
 | .ptr i sz j q, b, hh, k => by
  simp only [XV.lt, bltN, decide_eq_true_eq] at hh
  simp only [RV] at k ⊢
  have e : (ρ.below n) i = ρ i := by unfold Rho.below; rw [if_pos hh]
  rw [e]; exact k
 | .fz m sz f, b, _, k => by simpa [RV] using k
 | .fzc m sz f, b, _, k => by simpa [RV] using k
 | .fp cs, b, _, k => by simpa [RV] using k
 | .fsel cs j, b, _, k => by simpa [RV] using k
 | .agg cs, b, hh, k => by
  simp only [XV.lt] at hh
  simp only [RV] at k ⊢
  obtain ⟨bs, hb, hr⟩ := k
  exact ⟨bs, hb, RVL.below cs bs hh hr⟩
 | .tup cs, b, hh, k => by
  simp only [XV.lt] at hh
  simp only [RV] at k ⊢
  obtain ⟨bs, hb, hr⟩ := k
  exact ⟨bs, hb, RVL.below cs bs hh hr⟩
 | .gd c key x, b, hh, k => by
  simp only [XV.lt] at hh
  simp only [RV] at k ⊢
  exact ⟨fun hc => RV.below x b hh (k.1 hc), k.2⟩
 | .mref i, b, hh, k => by
  simp only [XV.lt, bltN, decide_eq_true_eq] at hh
  simp only [RV] at k ⊢
  have e : (ρ.below n) i = ρ i := by unfold Rho.below; rw [if_pos hh]
  rw [e]; exact k
 | .clo f i, b, hh, k => by
  simp only [XV.lt, bltN, decide_eq_true_eq] at hh
  simp only [RV] at k ⊢
  have e : (ρ.below n) i = ρ i := by unfold Rho.below; rw [if_pos hh]
  rw [e]; exact k
 | .top, b, _, _ => by simp [RV]
theorem RVL.below {ρ : Rho} {n : Nat} : ∀ (cs : List XV) (bs : List AV), ltL n cs = true → RVL ρ cs bs → RVL (ρ.below n) cs bs
 | [], [], _, _ => by simp [RVL]
 | c :: cs, b :: bs, hh, k => by
  simp only [ltL, Bool.and_eq_true] at hh
  simp only [RVL] at k ⊢
  exact ⟨RV.below c b hh.1 k.1, RVL.below cs bs hh.2 k.2⟩
 | [], _ :: _, _, k => by simp [RVL] at k
 | _ :: _, [], _, k => by simp [RVL] at k
end
theorem SMs_ok {S : XS} {n : Nat} : ∀ {l : List (Nat × XV)} {K : Prop}, SMs S l K → ltS n l = true → K ∧ ∀ i, look l i = .top ∨ (look S.s i = look l i ∧ (look l i).lt n = true)
 | [], K, h, _ => ⟨h, fun i => .inl rfl⟩
 | (d, v) :: l, K, h, hl => by
  obtain ⟨h1, h2⟩ := h
  simp only [ltS, Bool.and_eq_true] at hl
  obtain ⟨h3, h4⟩ := SMs_ok h2 hl.2
  refine ⟨h3, fun i => ?_⟩
  rw [look_put]
  by_cases hi : i = d
  ·rw [if_pos hi, hi]; exact .inr ⟨VM_eq h1, hl.1⟩
  ·rw [if_neg hi]; exact h4 i
def ltRow (n : Nat) : XRow → Bool
 | .one _ _ cs => ltL n cs
 | .vec .. => true
 | .vecU .. => true
 | .it .. => true
 | .mp _ => true
 | .mit .. => true
theorem SMh_ok {S : XS} {n : Nat} : ∀ {l : List (Nat × XRow)} {K : Prop}, SMh S l K → ltH n l = true → ∀ i r, findR l i = some r → i < n ∧ ltRow n r = true ∧ ∃ r', findR S.h i = some r' ∧ RM r' r
 | [], K, h, _, i, r, hf => by simp [findR] at hf
 | (d, q) :: l, K, h, hl, i, r, hf => by
  obtain ⟨h1, h2⟩ := h
  rw [findR_put] at hf
  have hl2 : d < n ∧ ltRow n q = true ∧ ltH n l = true := by
   cases q with
   | one e ap cs => simp only [ltH, Bool.and_eq_true, bltN, decide_eq_true_eq] at hl; exact ⟨hl.1, hl.2.1, hl.2.2⟩
   | vec e ap m sz f => simp only [ltH, Bool.and_eq_true, bltN, decide_eq_true_eq] at hl; exact ⟨hl.1, rfl, hl.2⟩
   | vecU e ap m sz i cs f => simp only [ltH, Bool.and_eq_true, bltN, decide_eq_true_eq] at hl; exact ⟨hl.1, rfl, hl.2⟩
   | it b p => simp only [ltH, Bool.and_eq_true, bltN, decide_eq_true_eq] at hl; exact ⟨hl.1, rfl, hl.2⟩
   | mp m => simp only [ltH, Bool.and_eq_true, bltN, decide_eq_true_eq] at hl; exact ⟨hl.1, rfl, hl.2⟩
   | mit m k c => simp only [ltH, Bool.and_eq_true, bltN, decide_eq_true_eq] at hl; exact ⟨hl.1, rfl, hl.2⟩
  by_cases hi : i = d
  ·rw [if_pos hi] at hf
   obtain rfl := Option.some.inj hf
   subst hi
   refine ⟨hl2.1, hl2.2.1, ?_⟩
   split at h1
   ·rename_i r' hr'; exact ⟨r', hr', h1⟩
   ·exact h1.elim
  ·rw [if_neg hi] at hf
   exact SMh_ok h2 hl2.2.2 i r hf
theorem RM_row {ρ : Rho} {n : Nat} {r' r : XRow} {row : Row} (h : RM r' r) (hl : ltRow n r = true) (k : RRow ρ r' row) : RRow (ρ.below n) r row := by
 unfold RM at h
 split at h
 ·obtain ⟨⟨rfl, rfl⟩, h⟩ := h
  simp only [RRow] at k ⊢
  rw [VML_eq h] at k
  exact ⟨k.1, k.2.1, RVL.below _ _ hl k.2.2⟩
 ·obtain ⟨⟨rfl, rfl, rfl⟩, rfl, h⟩ := h
  simp only [RRow] at k ⊢
  rw [k]
  congr 1
  exact vecOf_congr fun j hj => by rw [h j hj]
 ·obtain ⟨⟨rfl, rfl, rfl⟩, rfl, h⟩ := h
  simp only [RRow] at k ⊢
  rw [k]
  congr 1
  exact vecOf_congr fun j hj => by rw [h j hj]
 ·obtain ⟨rfl, rfl⟩ := h
  simpa [RRow] using k
 ·subst h
  simpa [RRow] using k
 ·obtain ⟨rfl, rfl, rfl⟩ := h
  simpa [RRow] using k
 ·exact h.elim
theorem SMh_K {S : XS} : ∀ {l : List (Nat × XRow)} {K : Prop}, SMh S l K → K
 | [], K, h => h
 | (d, q) :: l, K, h => SMh_K h.2
theorem SMg_ok {ρ : Rho} {n : Nat} : ∀ {gs gs' : List XV} {tg : List AV}, SMg gs gs' True → ltL n gs' = true → RVL ρ gs tg → RVL (ρ.below n) gs' tg
 | [], [], tg, _, _, h => by
  cases tg with
  | nil => simp [RVL]
  | cons b bs => simp [RVL] at h
 | x :: l, y :: k, tg, hm, hl, h => by
  cases tg with
  | nil => simp [RVL] at h
  | cons b bs =>
   simp only [ltL, Bool.and_eq_true] at hl
   simp only [RVL] at h ⊢
   unfold SMg at hm
   split at hm
   ·rename_i e1 e2; cases e1
   ·rename_i e1 e2
    injection e1 with e1 e1'
    injection e2 with e2 e2'
    subst e1' e2 e2'
    exact ⟨by simp [RV], SMg_ok hm hl.2 h.2⟩
   ·rename_i e1 e2
    injection e1 with e1 e1'
    injection e2 with e2 e2'
    subst e1 e1' e2 e2'
    have := VM_eq hm.1
    subst this
    exact ⟨RV.below _ _ hl.1 h.1, SMg_ok hm.2 hl.2 h.2⟩
   ·exact hm.elim
 | [], y :: k, tg, hm, _, _ => by simp [SMg] at hm
 | x :: l, [], tg, hm, _, _ => by simp [SMg] at hm
section
variable {P : Program} {N : Nat} {ρ : Rho} {F : Fr} {S S' : XS} {t : TM} {L : GH}
theorem SM_ok {T : XS} (h : SM S T) (hR : Rel F ρ S t L) : Rel F (ρ.below T.nx) T t L := by
 obtain ⟨hs, h⟩ := h
 simp only [scopeB, Bool.and_eq_true] at hs
 obtain ⟨hh, hsl⟩ := SMs_ok h hs.1
 have hrw := SMh_ok hh hs.2.1
 have dom : ∀ i, (findR T.h i).isSome = true → i < T.nx ∧ (findR S.h i).isSome = true := by
  intro i hi
  cases hf : findR T.h i with
  | none => rw [hf] at hi; cases hi
  | some r =>
   obtain ⟨h1, _, r', h2, _⟩ := hrw i r hf
   exact ⟨h1, by rw [h2]; rfl⟩
 have hgs : RVL (ρ.below T.nx) T.gs F.tg := SMg_ok (SMh_K hh) hs.2.2.2.2.2 hR.gh
 refine ⟨fun i => ?_, fun i r hf => ?_, fun i j g hi hj e1 e2 => ?_, fun i hi => ?_, fun b r hb => ?_, fun hp => ?_, hgs⟩
 ·rcases hsl i with h1 | ⟨h1, h2⟩
  ·rw [h1]; simp [RV]
  ·rw [← h1] at h2 ⊢
   exact RV.below _ _ h2 (hR.sl i)
 ·obtain ⟨h1, h2, r', h3, h4⟩ := hrw i r hf
  have hb : (ρ.below T.nx) i = ρ i := by unfold Rho.below; rw [if_pos h1]
  rcases hR.rw i r' h3 with ⟨g, row, k1, k2, k3⟩ | ⟨k1, e, sz, f, rfl⟩
  ·exact .inl ⟨g, row, by rw [hb]; exact k1, k2, RM_row h4 h2 k3⟩
  ·refine .inr ⟨by rw [hb]; exact k1, ?_⟩
   unfold RM at h4
   split at h4
   ·rename_i heq; cases heq
   ·rename_i heq
    injection heq with q1 q2 q3 q4 q5
    subst q1 q2 q3 q4 q5
    obtain ⟨⟨rfl, rfl, rfl⟩, rfl, _⟩ := h4
    exact ⟨_, _, _, rfl⟩
   ·rename_i heq; cases heq
   ·rename_i heq; cases heq
   ·rename_i heq; cases heq
   ·rename_i heq; cases heq
   ·exact h4.elim
 ·obtain ⟨a1, a2⟩ := dom i hi
  obtain ⟨b1, b2⟩ := dom j hj
  unfold Rho.below at e1 e2
  rw [if_pos a1] at e1
  rw [if_pos b1] at e2
  exact hR.inj i j g a2 b2 e1 e2
 ·unfold Rho.below
  rw [if_neg (by omega)]
 ·obtain ⟨h1, h2⟩ := hR.fr b r hb
  refine ⟨h1, fun i hi => ?_⟩
  obtain ⟨a1, a2⟩ := dom i hi
  unfold Rho.below
  rw [if_pos a1]
  exact h2 i a2
 ·obtain ⟨-, -, -, hpb, hpe, -⟩ := hs
  have hSp : S.pn = true := by
   unfold eqB at hpe
   split at hpe
   ·rename_i h1 h2; exact h1
   ·rename_i h1 h2; rw [hp] at h2; cases h2
   ·cases hpe
  obtain ⟨p1, p2, p3⟩ := hR.pin hSp
  unfold pinB at hpb
  rw [hp] at hpb
  simp only at hpb
  split at hpb
  ·rename_i e ap cs hf
   rw [bltN, decide_eq_true_eq] at hpb
   refine ⟨?_, hpb, e, ap, cs, hf⟩
   unfold Rho.below
   rw [if_pos hpb]
   exact p1
  ·cases hpb
theorem ownC_ok {ρ : Rho} {w : XV} (hw : ∀ a, RV ρ Xnil a → RV ρ w a) : ∀ (cs cs' : List XV) (vs : List AV), ownC w cs = some cs' → RVL ρ cs vs → RVL ρ cs' vs
 | [], _, _, h, _ => by cases h
 | x :: l, cs', vs, h, hr => by
  cases vs with
  | nil => simp [RVL] at hr
  | cons a vs =>
   simp only [RVL] at hr
   unfold ownC at h
   split at h
   ·rename_i hx
    obtain rfl := Option.some.inj h
    rw [nilO_eq hx] at hr
    simp only [RVL]
    exact ⟨hw a hr.1, hr.2⟩
   ·split at h
    ·rename_i l' hl
     obtain rfl := Option.some.inj h
     simp only [RVL]
     exact ⟨hr.1, ownC_ok hw l l' vs hl hr.2⟩
    ·cases h
theorem xown_ok {d sz : Nat} {e : TypeId} (h : xown S d e sz = some S') (hR : Rel F ρ S t L) : ∃ ρ', Rel F ρ' S' t L := by
 unfold xown at h
 split at h
 ·rename_i hl
  obtain rfl := Option.some.inj h
  have h1 := Rel.newN hR e sz fun _ => []
  have hs := hR.sl d
  rw [hl] at hs
  simp only [RV] at hs
  refine ⟨ρ.set S.nx none, ⟨fun i => ?_, h1.rw, h1.inj, h1.nx, h1.fr, h1.pin, h1.gh⟩⟩
  show RV _ (look ((d, .sl S.nx sz 0 0) :: S.s) i) _
  rw [look_put]
  split
  ·rename_i hi
   subst hi
   simp only [RV]
   exact .inr ⟨set_same _ _ _, trivial, trivial, hs⟩
  ·exact h1.sl i
 ·rename_i v hl
  split at h
  ·rename_i e' ap cs hq
   split at h
   case h_2 => cases h
   rename_i cs' hcs
   obtain rfl := Option.some.inj h
   have h1 := Rel.newN hR e sz fun _ => []
   have hs := hR.sl d
   rw [hl] at hs
   simp only [RV] at hs
   obtain ⟨g, hg, -⟩ := hs
   have hvn : v ≠ S.nx := by
    rintro rfl
    rw [hR.nx _ (Nat.le_refl _)] at hg
    cases hg
   have hfv : findR ((S.nx, XRow.vec e true 0 sz fun _ => []) :: S.h) v = some (.one e' ap cs) := by
    rw [findR_put, if_neg hvn]; exact hq
   obtain ⟨row, hL, hrow⟩ := (h1.rw v _ hfv).some_g (by rw [set_ne _ _ hvn]; exact hg)
   simp only [RRow] at hrow
   obtain ⟨q1, q2, q3⟩ := hrow
   have h2 := Rel.wr h1 (id := v) (g := g) (r := .one e' ap cs') (row := row) (by show (findR ((S.nx, _) :: S.h) v).isSome = true; rw [hfv]; rfl) (by rw [set_ne _ _ hvn]; exact hg) (by
    simp only [RRow]
    exact ⟨q1, q2, ownC_ok (fun a ha => by simp only [RV] at ha ⊢; exact .inr ⟨set_same _ _ _, trivial, trivial, ha⟩) cs cs' _ hcs q3⟩) (fun _ _ _ _ => ⟨_, _, _, rfl⟩)
   have hu : upd L g row = L := by
    funext b
    simp only [upd]
    split
    ·rename_i hb; rw [hb, hL]
    ·rfl
   rw [hu] at h2
   exact ⟨_, h2⟩
  ·cases h
 ·cases h
theorem J.retell {P : Program} {N : Nat} {c : Code} {Q : Exit → TM → GH → Prop} {t t' : TM} {L L' : GH} (hd : ∀ b, L b = none → L' b = none)
  (hv : ∀ w, (∀ g r, L g = some r → RowR L w g r) → (∀ g r, L' g = some r → RowR L' w g r) ∧ ∀ i x, VS L w (t i) x → VS L' w (t' i) x) (h : J P N c Q t' L') : J P N c Q t L := by
 intro ro L0 w0 a w he hs
 have hx := Ext.drop w hd
 obtain ⟨h1, h2⟩ := hv w hs.rows
 exact h ro L0 w0 a w (he.trans hx) ⟨fun i => h2 i _ (hs.tm i), h1, hs.size, hs.df.1, hs.df.2.ext hx⟩
theorem xfrz_ok {c : Code} {Q : Exit → TM → GH → Prop} {d : Nat} {cs : List Prop} (h : xfrz S d = some (cs, S')) (hc : ∀ p ∈ cs, p) (hR : Rel F ρ S t L) (K : ∀ ρ' t' L', Rel F ρ' S' t' L' → J P N c Q t' L') : J P N c Q t L := by
 unfold xfrz at h
 split at h
 ·rename_i id sz n hl
  split at h
  ·rename_i e n' sz' f hq
   split at h
   ·rename_i hs
    rw [beqN, decide_eq_true_eq] at hs
    subst hs
    simp only [Option.some.injEq, Prod.mk.injEq] at h
    obtain ⟨rfl, rfl⟩ := h
    have hn : n = n' := all1 hc
    subst hn
    have hsl := hR.sl d
    rw [hl] at hsl
    simp only [RV] at hsl
    have hlt : ∀ o, ρ id = some o → id < S.nx := by
     intro o ho
     rcases Nat.lt_or_ge id S.nx with h | h
     ·exact h
     ·rw [hR.nx id h] at ho; cases ho
    have go : ∀ (L0 : GH) (og : Option Nat) (row : Row), L = updo L0 og row → row.cs = vecOf n sz (fun i => toAVL (f i)) → Fre L0 og → ρ id = some og → t d = hv og sz n → (og = none → row.cs = [] ∧ n = 0) → J P N c Q t L := by
     intro L0 og row hL hcs hF hid ht hnil
     subst hL
     refine J.freeze d hF ht hnil (by rw [hcs, vecOf_length]) ?_
     rw [hcs]
     -- what is left is told of no block that is this one
     have fi : ∀ i, findR (dropH id (delR S.h id)) i = if i = id then none else (findR S.h i).map (dropRow id) := by
      intro i
      rw [findR_drop, findR_del]
      by_cases hi : i = id
      ·rw [if_pos hi, if_pos hi]; rfl
      ·rw [if_neg hi, if_neg hi]
     have old : ∀ i g row', i ≠ id → (findR S.h i).isSome = true → ρ i = some (some g) → updo L0 og row g = some row' → L0 g = some row' := by
      intro i g row' hi hs e1 e2
      cases og with
      | none => exact e2
      | some g0 =>
       have hne : g ≠ g0 := by
        rintro rfl
        exact hi (hR.inj i id _ hs (by rw [hq]; rfl) e1 hid)
       simpa [updo, upd_ne _ _ _ _ hne] using e2
     refine K (ρ.set id none) _ _ ⟨fun i => ?_, fun i q hf => ?_, fun i j g hi hj e1 e2 => ?_, fun i hi => ?_, fun b q hb => ?_, fun hp => ?_, dropC_ok hR.gh⟩
     ·show RV _ (look ((d, .fz n sz f) :: dropS id S.s) i) _
      rw [look_put]
      by_cases hi : i = d
      ·rw [if_pos hi, hi, TM.put_same]
       simp only [RV, toAV]
      ·rw [if_neg hi, TM.put_ne _ _ _ _ hi, look_drop]
       exact RV.drop (hR.sl i)
     ·simp only at hf
      rw [fi] at hf
      by_cases hi : i = id
      ·rw [if_pos hi] at hf; cases hf
      ·rw [if_neg hi] at hf
       cases hf2 : findR S.h i with
       | none => rw [hf2] at hf; cases hf
       | some p =>
        rw [hf2] at hf
        obtain rfl := Option.some.inj hf
        rcases hR.rw i p hf2 with ⟨g', row', h1, h2, h3⟩ | ⟨h1, e, sz, f, rfl⟩
        ·exact .inl ⟨g', row', by rw [set_ne _ _ hi]; exact h1, old i g' row' hi (by rw [hf2]; rfl) h1 h2, h3.drop⟩
        ·exact .inr ⟨by rw [set_ne _ _ hi]; exact h1, e, sz, f, rfl⟩
     ·simp only at hi hj
      rw [fi] at hi hj
      by_cases a1 : i = id
      ·rw [if_pos a1] at hi; cases hi
      ·by_cases a2 : j = id
       ·rw [if_pos a2] at hj; cases hj
       ·rw [if_neg a1] at hi
        rw [if_neg a2] at hj
        rw [set_ne _ _ a1] at e1
        rw [set_ne _ _ a2] at e2
        exact hR.inj i j g (by simpa using hi) (by simpa using hj) e1 e2
     ·simp only at hi
      have := hlt og hid
      rw [set_ne _ _ (by omega)]
      exact hR.nx i hi
     ·obtain ⟨h1, h2⟩ := hR.fr b q hb
      have h3 : L0 b = some q := by
       cases og with
       | none => exact h1
       | some g0 =>
        have hne : b ≠ g0 := by rintro rfl; exact h2 id (by rw [hq]; rfl) hid
        simpa [updo, upd_ne _ _ _ _ hne] using h1
      refine ⟨h3, fun i hi => ?_⟩
      simp only at hi
      rw [fi] at hi
      by_cases a1 : i = id
      ·rw [if_pos a1] at hi; cases hi
      ·rw [if_neg a1] at hi
       rw [set_ne _ _ a1]
       exact h2 i (by simpa using hi)
     ·obtain ⟨p1, p2, e', ap', cs', p3⟩ := hR.pin hp
      have hne : 0 ≠ id := by
       rintro rfl
       rw [hq] at p3; cases p3
      refine ⟨by rw [set_ne _ _ hne]; exact p1, p2, e', ap', dropC id cs', ?_⟩
      show findR (dropH id (delR S.h id)) 0 = _
      rw [fi, if_neg hne, p3]
      rfl
    rcases hsl with ⟨g0, hid, ht⟩ | ⟨hid, hn0, -, ht⟩
    ·obtain ⟨row, hL, hrow⟩ := (hR.rw id _ hq).some_g hid
     simp only [RRow] at hrow
     refine go (del L g0) (some g0) row ?_ (by rw [hrow]) (fun g' h => by obtain rfl := Option.some.inj h; simp [del]) hid (by rw [ht]; simp [hv]) (fun h => by cases h)
     funext b'
     simp only [updo, upd, del]
     split
     ·rename_i hb'; rw [hb', hL]
     ·rfl
    ·exact go L none ⟨0, true, vecOf n sz fun i => toAVL (f i)⟩ rfl rfl (fun g' h => by cases h) hid (by rw [ht]; rfl) (fun _ => ⟨by rw [hn0]; simp [vecOf], hn0⟩)
   ·cases h
  ·cases h
 ·rename_i hl
  simp only [Option.some.injEq, Prod.mk.injEq] at h
  obtain ⟨-, rfl⟩ := h
  have hsl := hR.sl d
  rw [hl] at hsl
  simp only [RV] at hsl
  refine J.retell (t' := t.putO (some d) (.fz 0 (vecOf 0 1 fun _ => toAVL [.v (.p (.string ⟨#[]⟩))]))) (L' := L) (fun b hb => hb) (fun w hw => ⟨hw, fun i x hx => ?_⟩) (K ρ _ L (Rel.put hR (some d) (by simp only [RV, toAV])))
  show VS L w ((t.put d (.fz 0 (vecOf 0 1 fun _ => toAVL [.v (.p (.string ⟨#[]⟩))]))) i) x
  unfold TM.put
  split
  ·rename_i hi
   rw [hi, hsl] at hx
   simp only [VS] at hx ⊢
   subst hx
   exact ⟨none, 0, [], rfl, Nat.le_refl _, .inl rfl, by simp [vecOf, VSL]⟩
  ·exact hx
 ·simp only [Option.some.injEq, Prod.mk.injEq] at h
  obtain ⟨-, rfl⟩ := h
  exact K ρ t L hR
 ·cases h
theorem xfrzc_ok {c : Code} {Q : Exit → TM → GH → Prop} {d o : Nat} {cs : List Prop} (h : xfrzc S d o = some (cs, S')) (hc : ∀ p ∈ cs, p) (hR : Rel F ρ S t L) (K : ∀ ρ' t' L', Rel F ρ' S' t' L' → J P N c Q t' L') : J P N c Q t L := by
 unfold xfrzc at h
 split at h
 ·rename_i v hl
  split at h
  ·rename_i e ap cells hv
   split at h
   ·rename_i id sz n hcell
    split at h
    ·rename_i e2 n' sz' f hq
     split at h
     ·rename_i hs
      rw [beqN, decide_eq_true_eq] at hs
      subst hs
      simp only [Option.some.injEq, Prod.mk.injEq] at h
      obtain ⟨rfl, rfl⟩ := h
      have hn : n = n' := all1 hc
      subst hn
      have hvid : v ≠ id := by rintro rfl; rw [hv] at hq; cases hq
      have hsl := hR.sl d
      rw [hl] at hsl
      simp only [RV] at hsl
      obtain ⟨gv, hgv, -⟩ := hsl
      obtain ⟨row, hL, he, hap, hcs⟩ := (hR.rw v _ hv).some_g hgv
      have hlen := hcs.length
      have ho : o < cells.length := by
       rcases Nat.lt_or_ge o cells.length with h | h
       ·exact h
       ·rw [xget_eq, List.getD_eq_getElem?_getD, List.getElem?_eq_none h] at hcell
        cases hcell
      obtain ⟨b, hb1, hb2⟩ := hcs.get o ho
      rw [← xget_eq, hcell] at hb2
      have hlt : ∀ q, ρ id = some q → id < S.nx := by
       intro q hq
       rcases Nat.lt_or_ge id S.nx with h | h
       ·exact h
       ·rw [hR.nx id h] at hq; cases hq
      have go : ∀ (L0 : GH) (og : Option Nat) (r : Row), L = updo L0 og r → r.cs = vecOf n sz (fun i => toAVL (f i)) → Fre L0 og → ρ id = some og → b = YtaglpckihegmoaaDoorAv.hv og sz n → (og = none → r.cs = [] ∧ n = 0) → J P N c Q t L := by
       intro L0 og r hLL hrcs hF hid hb hnil
       subst hLL
       have hne0 : og ≠ some gv := by
        intro h
        rw [h] at hid
        exact hvid (hR.inj v id gv (by rw [hv]; rfl) (by rw [hq]; rfl) hgv hid)
       have hL0 : L0 gv = some row := by
        cases og with
        | none => exact hL
        | some g0 =>
         have : gv ≠ g0 := by rintro rfl; exact hne0 rfl
         simpa [updo, upd_ne _ _ _ _ this] using hL
       have hd0 : ∀ b, updo L0 og r b = none → L0 b = none := fun b hb => (updo_none hb).2
       have hd : ∀ b, updo L0 og r b = none → upd L0 gv ⟨row.e, row.ap, row.cs.take o ++ ([.fz n r.cs] ++ row.cs.drop (o + 1))⟩ b = none := by
        intro b hb
        have := hd0 b hb
        rw [upd_ne]
        ·exact this
        ·rintro rfl; rw [hL0] at this; cases this
       refine J.retell (t' := t) (L' := upd L0 gv ⟨row.e, row.ap, row.cs.take o ++ ([.fz n r.cs] ++ row.cs.drop (o + 1))⟩) hd (fun w hrows => ⟨fun g q hg => ?_, fun i x hx => VS.ext (Ext.drop w hd) _ _ hx⟩) ?_
       ·by_cases hgg : g = gv
        ·subst hgg
         rw [upd_same] at hg
         obtain rfl := Option.some.inj hg
         obtain ⟨c', fr, vs, k1, k2, k3, k4, k5, k6, k7⟩ := (hrows g row hL).cg hb1
         have hll := k6.length
         have hvo : ∃ x, vs[o]? = some x ∧ VS (updo L0 og r) w b x := by
          obtain ⟨x, hx1, hx2⟩ := k6.get o b hb1
          exact ⟨x, hx1, hx2⟩
         obtain ⟨x, hx1, hx2⟩ := hvo
         rw [hb] at hx2
         have hfz := freeze_VS (sz := sz) hF hrows hnil (by rw [hrcs, vecOf_length]) hx2
         have hol : o < vs.length := by rw [← hll, ← hlen]; exact ho
         have hvs : vs = vs.take o ++ ([x] ++ vs.drop (o + 1)) := by
          have : vs.drop o = x :: vs.drop (o + 1) := by
           rw [List.drop_eq_getElem_cons hol]
           rw [List.getElem?_eq_getElem hol] at hx1
           rw [Option.some.inj hx1]
          rw [List.singleton_append, ← this, List.take_append_drop]
         have hx0 : VSL (upd L0 g ⟨row.e, row.ap, row.cs.take o ++ ([.fz n r.cs] ++ row.cs.drop (o + 1))⟩) w (row.cs.take o ++ ([.fz n r.cs] ++ row.cs.drop (o + 1))) vs := by
          rw [hvs]
          refine VSL.append (VSL.ext (Ext.drop w hd) _ _ (k6.take o)) (VSL.append ?_ (VSL.ext (Ext.drop w hd) _ _ (k6.drop (o + 1))))
          simp only [VSL]
          refine ⟨VS.ext (Ext.drop w fun b hb => ?_) _ _ hfz, trivial⟩
          rw [upd_ne]
          ·exact hb
          ·rintro rfl; rw [hL0] at hb; cases hb
         have hlen2 : (row.cs.take o ++ ([AV.fz n r.cs] ++ row.cs.drop (o + 1))).length = row.cs.length := by
          have : o < row.cs.length := by omega
          simp; omega
         refine RowC.r ?_ (show Row.isc ⟨row.e, row.ap, _⟩ from (hrows g row hL).ci hb1)
         exact ⟨c', fr, vs, k1, k2, k3, by simp only; omega, by simp only; rw [hlen2]; exact k5, hx0, k7⟩
        ·rw [upd_ne _ _ _ _ hgg] at hg
         have hg2 : updo L0 og r g = some q := by
          cases og with
          | none => exact hg
          | some g0 =>
           have : g ≠ g0 := by rintro rfl; rw [hF g rfl] at hg; cases hg
           simpa [updo, upd_ne _ _ _ _ this] using hg
         exact (hrows g q hg2).ext (Ext.drop w hd) rfl
       ·have fi : ∀ i, findR ((v, .one e ap (xsplice (dropC id cells) [.fz n sz f] o)) :: dropH id (delR (delR S.h v) id)) i = if i = v then some (.one e ap (xsplice (dropC id cells) [.fz n sz f] o)) else if i = id then none else (findR S.h i).map (dropRow id) := by
         intro i
         rw [findR_put, findR_drop, findR_del, findR_del]
         by_cases hi : i = v
         ·rw [if_pos hi, if_pos hi]
         ·rw [if_neg hi, if_neg hi]
          by_cases hj : i = id
          ·rw [if_pos hj, if_neg hi, if_pos hj]; rfl
          ·rw [if_neg hj, if_neg hi, if_neg hj]
        have old : ∀ i g row', i ≠ id → (findR S.h i).isSome = true → ρ i = some (some g) → updo L0 og r g = some row' → L0 g = some row' := by
         intro i g row' hi hs e1 e2
         cases og with
         | none => exact e2
         | some g0 =>
          have hne : g ≠ g0 := by
           rintro rfl
           exact hi (hR.inj i id _ hs (by rw [hq]; rfl) e1 hid)
          simpa [updo, upd_ne _ _ _ _ hne] using e2
        have ss : ∀ i, (findR ((v, .one e ap (xsplice (dropC id cells) [.fz n sz f] o)) :: dropH id (delR (delR S.h v) id)) i).isSome = true → i ≠ id ∧ (findR S.h i).isSome = true := by
         intro i hi
         rw [fi] at hi
         by_cases a1 : i = v
         ·rw [a1]; exact ⟨hvid, by rw [hv]; rfl⟩
         ·rw [if_neg a1] at hi
          by_cases a2 : i = id
          ·rw [if_pos a2] at hi; cases hi
          ·rw [if_neg a2] at hi
           exact ⟨a2, by simpa using hi⟩
        refine K (ρ.set id none) _ _ ⟨fun i => ?_, fun i q hf => ?_, fun i j g hi hj e1 e2 => ?_, fun i hi => ?_, fun b q hb => ?_, fun hp => ?_, dropC_ok hR.gh⟩
        ·show RV _ (look (dropS id S.s) i) _
         rw [look_drop]
         exact RV.drop (hR.sl i)
        ·simp only at hf
         rw [fi] at hf
         by_cases hi : i = v
         ·rw [if_pos hi] at hf
          obtain rfl := Option.some.inj hf
          subst hi
          refine .inl ⟨gv, _, by rw [set_ne _ _ hvid]; exact hgv, upd_same _ _ _, he, hap, ?_⟩
          rw [xsplice_eq]
          have hdc : RVL (ρ.set id none) (dropC id cells) row.cs := dropC_ok hcs
          refine RVL.append (hdc.take o) (RVL.append ?_ (hdc.drop _))
          simp only [RVL, RV, toAV, and_true]
          rw [hrcs]
         ·rw [if_neg hi] at hf
          by_cases hj : i = id
          ·rw [if_pos hj] at hf; cases hf
          ·rw [if_neg hj] at hf
           cases hf2 : findR S.h i with
           | none => rw [hf2] at hf; cases hf
           | some p =>
            rw [hf2] at hf
            obtain rfl := Option.some.inj hf
            rcases hR.rw i p hf2 with ⟨g', row', h1, h2, h3⟩ | ⟨h1, e, sz, f, rfl⟩
            ·refine .inl ⟨g', row', by rw [set_ne _ _ hj]; exact h1, ?_, h3.drop⟩
             rw [upd_ne]
             ·exact old i g' row' hj (by rw [hf2]; rfl) h1 h2
             ·rintro rfl
              exact hi (hR.inj i v _ (by rw [hf2]; rfl) (by rw [hv]; rfl) h1 hgv)
            ·exact .inr ⟨by rw [set_ne _ _ hj]; exact h1, e, sz, f, rfl⟩
        ·obtain ⟨a1, a2⟩ := ss i hi
         obtain ⟨b1, b2⟩ := ss j hj
         rw [set_ne _ _ a1] at e1
         rw [set_ne _ _ b1] at e2
         exact hR.inj i j g a2 b2 e1 e2
        ·have := hlt og hid
         simp only at hi
         rw [set_ne _ _ (by omega)]
         exact hR.nx i hi
        ·obtain ⟨h1, h2⟩ := hR.fr b q hb
         have hbv : b ≠ gv := by rintro rfl; exact h2 v (by rw [hv]; rfl) hgv
         have h3 : L0 b = some q := by
          cases og with
          | none => exact h1
          | some g0 =>
           have hne : b ≠ g0 := by rintro rfl; exact h2 id (by rw [hq]; rfl) hid
           simpa [updo, upd_ne _ _ _ _ hne] using h1
         refine ⟨by rw [upd_ne _ _ _ _ hbv]; exact h3, fun i hi => ?_⟩
         obtain ⟨a1, a2⟩ := ss i hi
         rw [set_ne _ _ a1]
         exact h2 i a2
        ·obtain ⟨p1, p2, e', ap', cs', p3⟩ := hR.pin hp
         have hne : 0 ≠ id := by
          rintro rfl
          rw [hq] at p3; cases p3
         refine ⟨by rw [set_ne _ _ hne]; exact p1, p2, ?_⟩
         show ∃ e ap cs, findR _ 0 = _
         rw [fi]
         by_cases h0 : 0 = v
         ·rw [if_pos h0]; exact ⟨_, _, _, rfl⟩
         ·rw [if_neg h0, if_neg hne, p3]; exact ⟨_, _, _, rfl⟩
      simp only [RV] at hb2
      rcases hb2 with ⟨g0, hid, ht⟩ | ⟨hid, hn0, -, ht⟩
      ·obtain ⟨row', hL', hrow⟩ := (hR.rw id _ hq).some_g hid
       simp only [RRow] at hrow
       refine go (del L g0) (some g0) row' ?_ (by rw [hrow]) (fun g' h => by obtain rfl := Option.some.inj h; simp [del]) hid (by rw [ht]; simp [YtaglpckihegmoaaDoorAv.hv]) (fun h => by cases h)
       funext b'
       simp only [updo, upd, del]
       split
       ·rename_i hb'; rw [hb', hL']
       ·rfl
      ·exact go L none ⟨0, true, vecOf n sz fun i => toAVL (f i)⟩ rfl rfl (fun g' h => by cases h) hid (by rw [ht]; rfl) (fun _ => ⟨by rw [hn0]; simp [vecOf], hn0⟩)
     ·cases h
    ·cases h
   ·simp only [Option.some.injEq, Prod.mk.injEq] at h
    obtain ⟨rfl, rfl⟩ := h
    exact K ρ t L hR
   ·cases h
  ·cases h
 ·cases h
theorem pre0_ok {c : Code} {Q : Exit → TM → GH → Prop} : ∀ (sc : Sc) (S : XS) (cs : List Prop) (S' : XS) (sc' : Sc) (ρ : Rho) (t : TM) (L : GH), pre0 sc S = some (cs, S', sc') → (∀ p ∈ cs, p) → Rel F ρ S t L → (∀ ρ' t' L', Rel F ρ' S' t' L' → J P N c Q t' L') → J P N c Q t L
 | .own d e sz k, S, cs, S', sc', ρ, t, L, h, hc, hR, K => by
  simp only [pre0] at h
  split at h
  ·rename_i S1 h1
   obtain ⟨ρ', hR'⟩ := xown_ok h1 hR
   exact pre0_ok k S1 cs S' sc' ρ' t L h hc hR' K
  ·cases h
 | .frz d k, S, cs, S', sc', ρ, t, L, h, hc, hR, K => by
  simp only [pre0] at h
  split at h
  ·rename_i cs1 S1 h1
   split at h
   ·rename_i ds r h2
    simp only [Option.some.injEq, Prod.mk.injEq] at h
    obtain ⟨rfl, rfl⟩ := h
    exact xfrz_ok h1 (allL hc) hR fun ρ' t' L' hR' => pre0_ok k S1 ds S' sc' ρ' t' L' h2 (allR hc) hR' K
   ·cases h
  ·cases h
 | .frzc d o k, S, cs, S', sc', ρ, t, L, h, hc, hR, K => by
  simp only [pre0] at h
  split at h
  ·rename_i cs1 S1 h1
   split at h
   ·rename_i ds r h2
    simp only [Option.some.injEq, Prod.mk.injEq] at h
    obtain ⟨rfl, rfl⟩ := h
    exact xfrzc_ok h1 (allL hc) hR fun ρ' t' L' hR' => pre0_ok k S1 ds S' sc' ρ' t' L' h2 (allR hc) hR' K
   ·cases h
  ·cases h
 | .casb .., S, cs, S', sc', ρ, t, L, h, hc, hR, K => by simp only [pre0, Option.some.injEq, Prod.mk.injEq] at h; obtain ⟨-, rfl, -⟩ := h; exact K ρ t L hR
 | .fk _, S, cs, S', sc', ρ, t, L, h, hc, hR, K => by simp only [pre0, Option.some.injEq, Prod.mk.injEq] at h; obtain ⟨-, rfl, -⟩ := h; exact K ρ t L hR
 | .nil, S, cs, S', sc', ρ, t, L, h, hc, hR, K => by simp only [pre0, Option.some.injEq, Prod.mk.injEq] at h; obtain ⟨-, rfl, -⟩ := h; exact K ρ t L hR
 | .seq _ _, S, cs, S', sc', ρ, t, L, h, hc, hR, K => by simp only [pre0, Option.some.injEq, Prod.mk.injEq] at h; obtain ⟨-, rfl, -⟩ := h; exact K ρ t L hR
 | .cut _ _ _, S, cs, S', sc', ρ, t, L, h, hc, hR, K => by simp only [pre0, Option.some.injEq, Prod.mk.injEq] at h; obtain ⟨-, rfl, -⟩ := h; exact K ρ t L hR
 | .cond _ _, S, cs, S', sc', ρ, t, L, h, hc, hR, K => by simp only [pre0, Option.some.injEq, Prod.mk.injEq] at h; obtain ⟨-, rfl, -⟩ := h; exact K ρ t L hR
 | .T _, S, cs, S', sc', ρ, t, L, h, hc, hR, K => by simp only [pre0, Option.some.injEq, Prod.mk.injEq] at h; obtain ⟨-, rfl, -⟩ := h; exact K ρ t L hR
 | .F _, S, cs, S', sc', ρ, t, L, h, hc, hR, K => by simp only [pre0, Option.some.injEq, Prod.mk.injEq] at h; obtain ⟨-, rfl, -⟩ := h; exact K ρ t L hR
 | .blk _, S, cs, S', sc', ρ, t, L, h, hc, hR, K => by simp only [pre0, Option.some.injEq, Prod.mk.injEq] at h; obtain ⟨-, rfl, -⟩ := h; exact K ρ t L hR
 | .loop _ _, S, cs, S', sc', ρ, t, L, h, hc, hR, K => by simp only [pre0, Option.some.injEq, Prod.mk.injEq] at h; obtain ⟨-, rfl, -⟩ := h; exact K ρ t L hR
 | .roll _ _, S, cs, S', sc', ρ, t, L, h, hc, hR, K => by simp only [pre0, Option.some.injEq, Prod.mk.injEq] at h; obtain ⟨-, rfl, -⟩ := h; exact K ρ t L hR
 | .loopP _ _, S, cs, S', sc', ρ, t, L, h, hc, hR, K => by simp only [pre0, Option.some.injEq, Prod.mk.injEq] at h; obtain ⟨-, rfl, -⟩ := h; exact K ρ t L hR
 | .cas _ _ _, S, cs, S', sc', ρ, t, L, h, hc, hR, K => by simp only [pre0, Option.some.injEq, Prod.mk.injEq] at h; obtain ⟨-, rfl, -⟩ := h; exact K ρ t L hR
 | .D _ _, S, cs, S', sc', ρ, t, L, h, hc, hR, K => by simp only [pre0, Option.some.injEq, Prod.mk.injEq] at h; obtain ⟨-, rfl, -⟩ := h; exact K ρ t L hR
theorem pre_ok {c : Code} {Q : Exit → TM → GH → Prop} (sc : Sc) (S : XS) (cs : List Prop) (S' : XS) (sc' : Sc) (ρ : Rho) (t : TM) (L : GH) (h : pre sc S = some (cs, S', sc')) (hc : ∀ p ∈ cs, p) (hR : Rel F ρ S t L) (K : ∀ ρ' t' L', Rel F ρ' S' t' L' → J P N c Q t' L') : J P N c Q t L := by
 unfold pre at h
 split at h
 ·exact pre0_ok sc S.pl cs S' sc' ρ t L h hc hR.pl K
 ·simp only [Option.some.injEq, Prod.mk.injEq] at h
  obtain ⟨-, rfl, -⟩ := h
  exact K ρ t L hR
theorem casP_of {v : Int} {f : Int → Prop} : ∀ {l : List Int}, casD v l → casP v f l → f v
 | [], h, _ => h.elim
 | c :: l, h, k => by
  rcases h with h | h
  ·subst h; exact k.1 rfl
  ·exact casP_of h k.2
theorem xcas_ok {c : Code} {Q : Exit → TM → GH → Prop} {f : XS → Sc → Prop} {ρ : Rho} {t : TM} {L : GH} : ∀ (sc : Sc) (S : XS), xcas f sc S → Rel F ρ S t L → (∀ S' sc', f S' sc' → Rel F ρ S' t L → J P N c Q t L) → J P N c Q t L
 | .cas d l k, S, h, hR, K => by
  simp only [xcas] at h
  split at h
  ·rename_i kk v hl
   have h2 := casP_of h.1 h.2
   refine xcas_ok k _ h2 ⟨fun i => ?_, hR.rw, hR.inj, hR.nx, hR.fr, hR.pin, hR.gh⟩ K
   show RV _ (look ((d, .v (.p (.int kk v))) :: S.s) i) _
   rw [look_put]
   split
   ·rename_i hi
    have := hR.sl d
    rw [hl] at this
    rw [hi]
    exact this
   ·exact hR.sl i
  ·exact h.elim
 | .casb d k, S, h, hR, K => by
  simp only [xcas] at h
  split at h
  ·rename_i v hl
   have put' : ∀ c', v = c' → Rel F ρ { S with s := (d, .v (.p (.bool c'))) :: S.s } t L := by
    rintro c' rfl
    refine ⟨fun i => ?_, hR.rw, hR.inj, hR.nx, hR.fr, hR.pin, hR.gh⟩
    show RV _ (look ((d, .v (.p (.bool v))) :: S.s) i) _
    rw [look_put]
    split
    ·rename_i hi
     have := hR.sl d
     rw [hl] at this
     rw [hi]
     exact this
    ·exact hR.sl i
   cases v with
   | true => exact xcas_ok k _ (h.1 rfl) (put' _ rfl) K
   | false => exact xcas_ok k _ (h.2 rfl) (put' _ rfl) K
  ·exact h.elim
 | .nil, S, h, hR, K => K _ _ h hR
 | .seq .., S, h, hR, K => K _ _ h hR
 | .cut .., S, h, hR, K => K _ _ h hR
 | .cond .., S, h, hR, K => K _ _ h hR
 | .T .., S, h, hR, K => K _ _ h hR
 | .F .., S, h, hR, K => K _ _ h hR
 | .blk .., S, h, hR, K => K _ _ h hR
 | .loop .., S, h, hR, K => K _ _ h hR
 | .roll .., S, h, hR, K => K _ _ h hR
 | .loopP .., S, h, hR, K => K _ _ h hR
 | .D .., S, h, hR, K => K _ _ h hR
 | .fk .., S, h, hR, K => K _ _ h hR
 | .frzc .., S, h, hR, K => K _ _ h hR
 | .own .., S, h, hR, K => K _ _ h hR
 | .frz .., S, h, hR, K => K _ _ h hR
theorem JN.mono {ops : Array Oper} {tb : Nat → Nat} : ∀ {l : List Oper} {ann : List (List Nat × Option Nat)} {t : TM} {L : GH} {K K' : TM → GH → Prop}, JN P N ops tb l ann t L K → (∀ t L, K t L → K' t L) → JN P N ops tb l ann t L K'
 | [], _, t, L, K, K', h, hk => hk t L h
 | o :: os, ann, t, L, K, K', ⟨v, W, h1, h2, h3⟩, hk => ⟨v, W, h1, h2, JN.mono h3 hk⟩
def QX (F : Fr) (Q : Exit → XS → Prop) : Exit → TM → GH → Prop := fun e t L => ∃ ρ S, Rel F ρ S t L ∧ Q e S
theorem xwp_ok {X : Cx} (hX : X.ok P) : ∀ (c : Code) (sc : Sc) (S : XS) (Q : Exit → XS → Prop) (ρ : Rho) (t : TM) (L : GH), xwp X N c sc S Q → Rel F ρ S t L → J P N c (QX F Q) t L
 | .skip, sc, S, Q, ρ, t, L, h, hR => J.skip ⟨ρ, S, hR, by simpa [xwp] using h⟩
 | .region id ops draw, sc, S, Q, ρ, t, L, h, hR => by
  simp only [xwp] at h
  have e : ops = ops.toList.toArray := by simp
  split at h
  ·exact h.elim
  rename_i cs S1 sc' hp
  obtain ⟨hc, h⟩ := andK_all _ _ h
  refine pre_ok sc S cs S1 _ ρ t L hp hc hR fun ρ t L hR => ?_
  refine xcas_ok _ _ h hR fun S _ h hR => ?_
  split at h
  ·rw [e]
   refine J.region ?_
   split at h
   ·exact xgf_ok (N := N) (ops := ops.toList.toArray) (Q := QX F Q) hX ops.toList S [] _ ρ t L (by simpa using h) hR (DA.nil _) (fun ρ' S' t' L' hR' hq => ⟨ρ', S', hR', hq⟩)
   have := xgo_ok (N := N) (ops := ops.toList.toArray) (Q := QX F Q) hX ops.toList S [] _ ρ t L (by simpa using h) hR (GA.nil _ _) (fun ρ' S' t' L' hR' hq => ⟨ρ', S', hR', hq⟩)
   exact this
  ·obtain ⟨ann, S', t', L', i1, i2, i3, i4, i5, i6⟩ := xdr_ok (N := N) (ops := ops) hX S.nx (ops.toList.take (dropAl ops.toList (drawN ops.toList))) S [] [] _ t L h hR (GA.nil _ _)
   split at i4
   ·rename_i hB
    rw [List.append_nil, List.reverse_reverse, Bool.and_eq_true] at hB
    split at i4
    ·rename_i S2 hxal
     have hle := dropAl_le ops.toList (drawN ops.toList)
     have hdl := drawN_le ops.toList
     have hAl : ((ops.toList.take (drawN ops.toList)).drop (dropAl ops.toList (drawN ops.toList))).length = drawN ops.toList - dropAl ops.toList (drawN ops.toList) := by
      rw [List.length_drop, List.length_take]; omega
     have hAi : ∀ i, i < ((ops.toList.take (drawN ops.toList)).drop (dropAl ops.toList (drawN ops.toList))).length → ((ops.toList.take (drawN ops.toList)).drop (dropAl ops.toList (drawN ops.toList)))[i]? = ops.toList[dropAl ops.toList (drawN ops.toList) + i]? := by
      intro i hi
      rw [List.getElem?_drop, List.getElem?_take_of_lt (by omega)]
     rw [e]
     refine J.drawA (tbOf ρ S.nx) ann (dropAl ops.toList (drawN ops.toList)) (rowAl X ops.toList) hX.M hle (fun i hi1 hi2 => ?_) hB.1 hB.2 i6 i1 ?_ ?_ ?_
     ·obtain ⟨o, ho, ha⟩ := dropAl_is ops.toList (drawN ops.toList) i hi1 hi2
      refine ⟨o, ho, ha, ?_⟩
      have hst := xal_step (ops := ops.toList.toArray) (N := N) (P := P) hX (l := ops.toList) _ (dropAl ops.toList (drawN ops.toList)) S' S2 hAi hxal (i - dropAl ops.toList (drawN ops.toList)) o (by rw [hAi _ (by omega), show dropAl ops.toList (drawN ops.toList) + (i - dropAl ops.toList (drawN ops.toList)) = i by omega]; exact ho) ha
      rw [show dropAl ops.toList (drawN ops.toList) + (i - dropAl ops.toList (drawN ops.toList)) = i by omega] at hst
      exact hst
     ·have use : ∀ k x, x ∈ (ann.getD k ([], none)).1 ∨ (ann.getD k ([], none)).2 = some x → (findR S.h x).isSome = true := by
       intro k x hx
       rw [List.getD_eq_getElem?_getD] at hx
       cases hk : ann[k]? with
       | none => rw [hk] at hx; simp at hx
       | some a => rw [hk] at hx; exact (i5 a (List.mem_of_getElem? hk)).1 x hx
      intro k x y hx j hy hxy
      exact tbOf_inj hR (use k x hx) (use j y hy) hxy
     ·intro k x hx
      rw [List.getD_eq_getElem?_getD] at hx
      cases hk : ann[k]? with
      | none => rw [hk] at hx; simp at hx
      | some a =>
       rw [hk] at hx
       obtain ⟨a1, a2⟩ := i5 a (List.mem_of_getElem? hk)
       obtain ⟨g, hg⟩ := a2 x hx
       have hs := a1 x (.inr hx)
       have e1 : tbOf ρ S.nx x = g := by simp [tbOf, hg]
       rw [e1, rowsOf_ok hR x g hg hs]
       rfl
     ·have e3 : ops.toList.toArray = ops := by simp
      rw [e3]
      refine JN.mono i2 fun t2 L2 ⟨e1, e2⟩ σ hs1 hs2 => ?_
      subst e1 e2
      obtain ⟨ρ2, hR2⟩ := xal_ok (N := N) (X := X) (l := ops.toList) (σ := σ) _ (dropAl ops.toList (drawN ops.toList)) S' S2 ρ _ _ hAi hxal i3 (fun i hi => hs1 _ (by omega) (by rw [hAl] at hi; omega)) (fun i j hi hj eq => by rw [hAl] at hi hj; have := hs2 _ _ (by omega) (by omega) (by omega) (by omega) eq; omega)
      rw [hAl] at hR2
      exact xgo_ok (N := N) (ops := ops) (Q := QX F Q) hX _ S2 [] _ ρ2 _ _ i4 hR2 (GA.nil _ _) (fun ρ' S'' t'' L'' hR' hq => ⟨ρ', S'', hR', hq⟩)
    ·exact i4.elim
   ·exact i4.elim
 | .seq a b, sc, S, Q, ρ, t, L, h, hR => by
  simp only [xwp] at h
  refine xcas_ok _ _ h hR fun S sc h hR => ?_
  split at h
  ·exact h.elim
  ·rename_i cs S1 Jv s1 s2 hp
   obtain ⟨hc, h1, h2⟩ := andK_all _ _ h
   refine pre_ok sc S cs S1 _ ρ t L hp hc hR fun ρ' t' L' hR' => ?_
   refine J.seq ((xwp_ok hX a s1 S1 _ ρ' t' L' h1 hR').mono ?_)
   rintro e t2 L2 ⟨ρ2, S2, hR2, hq⟩
   cases e with
   | normal =>
    obtain ⟨x, hx, hm⟩ := hq
    exact xwp_ok hX b s2 _ Q _ t2 L2 (h2 x hx) (SM_ok hm hR2)
   | _ => exact ⟨ρ2, S2, hR2, hq⟩
  ·rename_i cs S1 sc' hneg hp
   obtain ⟨hc, h1⟩ := andK_all _ _ h
   refine pre_ok sc S cs S1 _ ρ t L hp hc hR fun ρ' t' L' hR' => ?_
   refine J.seq ((xwp_ok hX a _ S1 _ ρ' t' L' h1 hR').mono ?_)
   rintro e t2 L2 ⟨ρ2, S2, hR2, hq⟩
   cases e with
   | normal => exact xwp_ok hX b _ S2 Q ρ2 t2 L2 hq hR2
   | _ => exact ⟨ρ2, S2, hR2, hq⟩
 | .cond o a b, sc, S, Q, ρ, t, L, h, hR => by
  simp only [xwp] at h
  split at h
  ·rename_i p c heq
   obtain ⟨hc, h2⟩ := andK_all _ _ h
   clear h
   have hv := st_none (xev_ok hR o) (by rw [heq]; exact hc)
   rw [heq] at hv
   simp only [RV] at hv
   split at h2
   ·obtain ⟨hcc, h3⟩ := h2
    rw [hcc] at hv
    exact J.ifT hv (xwp_ok hX a _ S Q ρ t L h3 hR)
   ·obtain ⟨hcc, h3⟩ := h2
    rw [hcc] at hv
    exact J.ifF hv (xwp_ok hX b _ S Q ρ t L h3 hR)
   ·cases c with
    | true => exact J.ifT hv (xwp_ok hX a _ S Q ρ t L h2 hR)
    | false => exact J.ifF hv (xwp_ok hX b _ S Q ρ t L h2 hR)
   ·exact J.cond hv (fun hh => xwp_ok hX a _ S Q ρ t L (h2.1 hh) hR) (fun hh => xwp_ok hX b _ S Q ρ t L (h2.2 hh) hR)
  ·exact h.elim
 | .block id c, sc, S, Q, ρ, t, L, h, hR => by
  simp only [xwp] at h
  refine J.block ((xwp_ok hX c _ S _ ρ t L h hR).mono ?_)
  rintro e t2 L2 ⟨ρ2, S2, hR2, hq⟩
  cases e with
  | exit j =>
   simp only [inbX, beqN] at hq
   simp only [inb]
   by_cases hj : j = id
   ·rw [decide_eq_true hj, cond_true] at hq
    rw [if_pos hj]
    exact ⟨ρ2, S2, hR2, hq⟩
   ·rw [decide_eq_false hj, cond_false] at hq
    rw [if_neg hj]
    exact ⟨ρ2, S2, hR2, hq⟩
  | _ => exact ⟨ρ2, S2, hR2, hq⟩
 | .loop c, sc, S, Q, ρ, t, L, h, hR => by
  simp only [xwp] at h
  split at h
  ·rename_i I s
   obtain ⟨⟨x0, hx0, hm0⟩, h⟩ := h
   refine J.loop (fun n t L => ∃ x ρ, I.inv x ∧ I.μ x = n ∧ Rel F ρ (I.S x) t L) (I.μ x0) ⟨x0, _, hx0, rfl, SM_ok hm0 hR⟩ ?_
   rintro n t1 L1 ⟨x, ρ1, hx, rfl, hR1⟩
   refine (xwp_ok hX c s _ _ ρ1 t1 L1 (h x hx) hR1).mono ?_
   rintro e t2 L2 ⟨ρ2, S2, hR2, hq⟩
   cases e with
   | normal =>
    obtain ⟨x', hx', hlt, hm⟩ := hq
    exact ⟨I.μ x', hlt, x', _, hx', rfl, SM_ok hm hR2⟩
   | _ => exact ⟨ρ2, S2, hR2, hq⟩
  ·rename_i P s
   obtain ⟨p, ⟨x0, hx0, hm0⟩, h⟩ := h
   refine J.loop (fun n t L => ∃ x ρ, (P.J p).inv x ∧ (P.J p).μ x = n ∧ Rel F ρ ((P.J p).S x) t L) ((P.J p).μ x0) ⟨x0, _, hx0, rfl, SM_ok hm0 hR⟩ ?_
   rintro n t1 L1 ⟨x, ρ1, hx, rfl, hR1⟩
   refine (xwp_ok hX c s _ _ ρ1 t1 L1 (h x hx) hR1).mono ?_
   rintro e t2 L2 ⟨ρ2, S2, hR2, hq⟩
   cases e with
   | normal =>
    obtain ⟨x', hx', hlt, hm⟩ := hq
    exact ⟨(P.J p).μ x', hlt, x', _, hx', rfl, SM_ok hm hR2⟩
   | _ => exact ⟨ρ2, S2, hR2, hq⟩
  ·rename_i n s
   refine J.loop (fun n t L => ∃ S ρ, Rel F ρ S t L ∧ xroll (fun S Q => xwp X N c s S Q) Q n S) n ⟨S, ρ, hR, h⟩ ?_
   rintro n t1 L1 ⟨S1, ρ1, hR1, hq1⟩
   cases n with
   | zero => exact hq1.elim
   | succ n =>
    refine (xwp_ok hX c s S1 _ ρ1 t1 L1 hq1 hR1).mono ?_
    rintro e t2 L2 ⟨ρ2, S2, hR2, hq⟩
    cases e with
    | normal => exact ⟨n, by omega, S2, ρ2, hR2, hq⟩
    | _ => exact ⟨ρ2, S2, hR2, hq⟩
  ·exact h.elim
 | .exit id, sc, S, Q, ρ, t, L, h, hR => J.exit ⟨ρ, S, hR, by simpa [xwp] using h⟩
 | .ret, sc, S, Q, ρ, t, L, h, hR => J.ret ⟨ρ, S, hR, by simpa [xwp] using h⟩
 | .rangeFunc .., sc, S, Q, ρ, t, L, h, hR => by simp [xwp] at h
 | .scope c, sc, S, Q, ρ, t, L, h, hR => by
  simp only [xwp] at h
  refine J.scope ((xwp_ok hX c _ S _ ρ t L h hR).mono ?_)
  rintro e t2 L2 ⟨ρ2, S2, hR2, hq⟩
  cases e <;> first | exact hq.elim | exact ⟨ρ2, S2, hR2, hq⟩
 | .label _, sc, S, Q, ρ, t, L, h, hR => J.label ⟨ρ, S, hR, by simpa [xwp] using h⟩
 | .goto _, sc, S, Q, ρ, t, L, h, hR => by simp [xwp] at h
 | .refuse _, sc, S, Q, ρ, t, L, h, hR => by simp [xwp] at h
end
end Go.Proofs.YtaglpckihegmoaaDoorAv
namespace Go.Proofs.YtaglpckihegmoaaDoorAv
open Go Go.RowKit
theorem JF.conv {P : Program} {f : FuncId} {args : List AV} {L : GH} {R R2 : AV → GH → Prop} (h : JF P f args L R)
  (k : ∀ v L1 w x, R v L1 → (∀ g r, L1 g = some r → RowR L1 w g r) → VS L1 w v x → ∃ v2 L2, VS L2 w v2 x ∧ (∀ g r, L2 g = some r → RowR L2 w g r) ∧ (∀ b, L1 b = none → L2 b = none) ∧ R2 v2 L2) : JF P f args L R2 :=
 fun w xs hg hv hw => (h w xs hg hv hw).mono fun e w' ⟨v, x, L1, he, hv, hrows, hx, hr⟩ => by
  obtain ⟨v2, L2, h1, h2, h3, h4⟩ := k v L1 w' x hr hrows hv
  exact ⟨v2, x, L2, he, h1, h2, hx.trans (Ext.drop w' h3), h4⟩
section
variable {P : Program} {ρ : Rho} {F : Fr} {S : XS} {t : TM} {L : GH} {w : World}
mutual
theorem RV.pd {ρ : Rho} : ∀ (x : XV) (b : AV), x.pd = true → RV ρ x b → b = toAV x
 | .v a, b, _, k => by simpa [RV, toAV] using k
 | .fz n sz f, b, _, k => by simpa [RV] using k
 | .agg cs, b, h, k => by
  simp only [XV.pd] at h
  simp only [RV] at k
  obtain ⟨bs, rfl, hr⟩ := k
  rw [toAV, RVL.pd cs bs h hr]
 | .tup cs, b, h, k => by
  simp only [XV.pd] at h
  simp only [RV] at k
  obtain ⟨bs, rfl, hr⟩ := k
  rw [toAV, RVL.pd cs bs h hr]
 | .sl .., b, h, _ => by simp [XV.pd] at h
 | .ptr .., b, h, _ => by simp [XV.pd] at h
 | .fp .., b, h, _ => by simp [XV.pd] at h
 | .fsel .., b, h, _ => by simp [XV.pd] at h
 | .gd .., b, h, _ => by simp [XV.pd] at h
 | .top, b, h, _ => by simp [XV.pd] at h
theorem RVL.pd {ρ : Rho} : ∀ (cs : List XV) (bs : List AV), pdL cs = true → RVL ρ cs bs → bs = toAVL cs
 | [], [], _, _ => rfl
 | c :: cs, b :: bs, h, k => by
  simp only [pdL, Bool.and_eq_true] at h
  simp only [RVL] at k
  rw [toAVL, ← RV.pd c b h.1 k.1, ← RVL.pd cs bs h.2 k.2]
 | [], _ :: _, _, k => by simp [RVL] at k
 | _ :: _, [], _, k => by simp [RVL] at k
end
mutual
theorem pd_RV (ρ : Rho) : ∀ (x : XV), x.pd = true → RV ρ x (toAV x)
 | .v a, _ => by simp [RV, toAV]
 | .fz n sz f, _ => by simp [RV]
 | .agg cs, h => by
  simp only [XV.pd] at h
  simp only [RV, toAV]
  exact ⟨_, rfl, pd_RVL ρ cs h⟩
 | .tup cs, h => by
  simp only [XV.pd] at h
  simp only [RV, toAV]
  exact ⟨_, rfl, pd_RVL ρ cs h⟩
 | .sl .., h => by simp [XV.pd] at h
 | .ptr .., h => by simp [XV.pd] at h
 | .fp .., h => by simp [XV.pd] at h
 | .fsel .., h => by simp [XV.pd] at h
 | .gd .., h => by simp [XV.pd] at h
 | .top, h => by simp [XV.pd] at h
theorem pd_RVL (ρ : Rho) : ∀ (cs : List XV), pdL cs = true → RVL ρ cs (toAVL cs)
 | [], _ => by simp [RVL, toAVL]
 | c :: cs, h => by
  simp only [pdL, Bool.and_eq_true] at h
  simp only [RVL, toAVL]
  exact ⟨pd_RV ρ c h.1, pd_RVL ρ cs h.2⟩
end
def Off (ρ : Rho) (S : XS) (L2 : GH) : Prop := ∀ id g e ap n sz f, findR S.h id = some (.vec e ap n sz f) → ρ id = some (some g) → L2 g = none
theorem VS_fz0 {L : GH} {w : World} (f : Nat → List AV) (sz : Nat) : VS L w (.fz 0 (vecOf 0 sz f)) (.slice none 0 0) := by
 simp only [VS]
 exact ⟨none, 0, [], rfl, Nat.le_refl _, .inl rfl, by simp [vecOf, VSL]⟩
mutual
theorem RX_VS (hR : Rel F ρ S t L) (hrows : ∀ g r, L g = some r → RowR L w g r) {L2 : GH} (hd : ∀ b, L b = none → L2 b = none) (ho : Off ρ S L2) : ∀ (y : XV) (x : XV) (b : AV) (z : Value), y.pd = true → RX S x y → RV ρ x b → VS L w b z → VS L2 w (toAV y) z
 | .v a, x, b, z, hp, h, k, hz => by
  have hx : x = .v a := by
   unfold RX at h
   split at h <;> first | exact VM_eq h | (rename_i heq; cases heq) | (rename_i heq _; cases heq)
  subst hx
  simp only [RV] at k
  subst k
  exact VS.ext (Ext.drop w hd) _ _ hz
 | .fz n' sz' g, x, b, z, hp, h, k, hz => by
  unfold RX at h
  split at h
  ·rename_i id sz n n2 sz2 g2 heq
   injection heq with q1 q2 q3
   subst q1 q2 q3
   split at h
   ·rename_i e m s f hf
    obtain ⟨⟨rfl, rfl⟩, rfl, rfl, hfg⟩ := h
    have hvec : vecOf m s (fun i => toAVL (f i)) = vecOf m s fun i => toAVL (g i) := vecOf_congr fun j hj => by rw [hfg j hj]
    simp only [RV] at k
    rcases k with ⟨g0, hg, rfl⟩ | ⟨hg, rfl, -, rfl⟩
    ·obtain ⟨row, hL, hrow⟩ := (hR.rw id _ hf).some_g hg
     simp only [RRow] at hrow
     subst hrow
     have hoff := ho id g0 _ _ _ _ _ hf hg
     simp only [toAV]
     rw [← hvec]
     -- as a slice that is only read
     simp only [VS, Nat.zero_mul] at hz ⊢
     obtain ⟨a, cap, rfl, hn, hc⟩ := hz
     obtain ⟨c, fr, vs, hh, _, _, hle, hvs, hv, h1⟩ := hrows g0 _ hL
     refine ⟨a, cap, vs, rfl, hn, ?_, VSL.ext (Ext.drop w hd) _ _ hv⟩
     rcases hc with hc | ⟨rfl, _⟩
     ·left
      have : m = 0 := by omega
      have hl := hv.length
      simp only [vecOf_length] at hl
      rw [this, Nat.zero_mul] at hl
      exact List.length_eq_zero_iff.1 hl.symm
     ·refine .inr ⟨_, rfl, hoff, h1, fun i v hi => ?_⟩
      rw [add_plain, Nat.zero_add]
      rw [hvs, List.getElem?_take] at hi
      split at hi
      ·simp only [World.cell?, hh]
       simpa using hi
      ·cases hi
    ·simp only [VS] at hz
     subst hz
     exact VS_fz0 _ _
   ·exact h.elim
  ·rename_i n2 sz2 g2 heq
   injection heq with q1 q2 q3
   subst q1 q2 q3
   subst h
   simp only [RV] at k
   subst k
   simp only [VS] at hz
   subst hz
   exact VS_fz0 _ _
  ·rename_i n sz f n2 sz2 g2 heq
   injection heq with q1 q2 q3
   subst q1 q2 q3
   obtain ⟨rfl, rfl, hfg⟩ := h
   simp only [RV, toAV] at k
   subst k
   simp only [toAV]
   rw [← vecOf_congr (g := fun i => toAVL (f i)) fun j hj => by rw [hfg j hj]]
   exact VS.ext (Ext.drop w hd) _ _ hz
  ·rename_i heq; cases heq
  ·rename_i heq; cases heq
  ·have := VM_eq h
   subst this
   have := RV.pd _ _ hp k
   subst this
   exact VS.ext (Ext.drop w hd) _ _ hz
 | .agg ds, x, b, z, hp, h, k, hz => by
  unfold RX at h
  split at h
  ·rename_i heq; cases heq
  ·rename_i heq; cases heq
  ·rename_i heq; cases heq
  ·rename_i cs ds2 heq
   injection heq with heq
   subst heq
   simp only [RV] at k
   obtain ⟨bs, rfl, hr⟩ := k
   simp only [VS] at hz
   obtain ⟨vs, rfl, hv⟩ := hz
   simp only [toAV, VS]
   simp only [XV.pd] at hp
   exact ⟨vs, rfl, RXL_VS hR hrows hd ho ds _ _ _ hp h hr hv⟩
  ·rename_i heq; cases heq
  ·have := VM_eq h
   subst this
   have := RV.pd _ _ hp k
   subst this
   exact VS.ext (Ext.drop w hd) _ _ hz
 | .tup ds, x, b, z, hp, h, k, hz => by
  unfold RX at h
  split at h
  ·rename_i heq; cases heq
  ·rename_i heq; cases heq
  ·rename_i heq; cases heq
  ·rename_i heq; cases heq
  ·rename_i cs ds2 heq
   injection heq with heq
   subst heq
   simp only [RV] at k
   obtain ⟨bs, rfl, hr⟩ := k
   simp only [VS] at hz
   obtain ⟨vs, rfl, hv⟩ := hz
   simp only [toAV, VS]
   simp only [XV.pd] at hp
   exact ⟨vs, rfl, RXL_VS hR hrows hd ho ds _ _ _ hp h hr hv⟩
  ·have := VM_eq h
   subst this
   have := RV.pd _ _ hp k
   subst this
   exact VS.ext (Ext.drop w hd) _ _ hz
 | .sl .., x, b, z, hp, _, _, _ => by simp [XV.pd] at hp
 | .ptr .., x, b, z, hp, _, _, _ => by simp [XV.pd] at hp
 | .fp .., x, b, z, hp, _, _, _ => by simp [XV.pd] at hp
 | .fsel .., x, b, z, hp, _, _, _ => by simp [XV.pd] at hp
 | .gd .., x, b, z, hp, _, _, _ => by simp [XV.pd] at hp
 | .top, x, b, z, hp, _, _, _ => by simp [XV.pd] at hp
theorem RXL_VS (hR : Rel F ρ S t L) (hrows : ∀ g r, L g = some r → RowR L w g r) {L2 : GH} (hd : ∀ b, L b = none → L2 b = none) (ho : Off ρ S L2) : ∀ (ys : List XV) (xs : List XV) (bs : List AV) (zs : List Value), pdL ys = true → RXL S xs ys → RVL ρ xs bs → VSL L w bs zs → VSL L2 w (toAVL ys) zs
 | [], [], [], [], _, _, _, _ => by simp [toAVL, VSL]
 | y :: ys, x :: xs, b :: bs, z :: zs, hp, h, k, hz => by
  simp only [pdL, Bool.and_eq_true] at hp
  simp only [RXL] at h
  simp only [RVL] at k
  simp only [VSL] at hz
  simp only [toAVL, VSL]
  exact ⟨RX_VS hR hrows hd ho y x b z hp.1 h.1 k.1 hz.1, RXL_VS hR hrows hd ho ys xs bs zs hp.2 h.2 k.2 hz.2⟩
 | [], _ :: _, _, _, _, h, _, _ => by simp [RXL] at h
 | _ :: _, [], _, _, _, h, _, _ => by simp [RXL] at h
 | [], [], _ :: _, _, _, _, k, _ => by simp [RVL] at k
 | _ :: _, _ :: _, [], _, _, _, k, _ => by simp [RVL] at k
 | [], [], [], _ :: _, _, _, _, hz => by simp [VSL] at hz
 | _ :: _, _ :: _, _ :: _, [], _, _, _, hz => by simp [VSL] at hz
end
theorem xres_ok {X : Cx} (hX : X.ok P) (hR : Rel F ρ S t L) : ∀ {rs : List ResultVar} {vs : List XV}, xress X S rs = some vs → ∃ bs, outsC P t L rs bs ∧ RVL ρ vs bs
 | [], vs, h => by
  simp only [xress, Option.some.injEq] at h
  subst h
  exact ⟨[], trivial, by simp [RVL]⟩
 | r :: rs, vs, h => by
  simp only [xress] at h
  split at h
  ·rename_i v vs' h1 h2
   obtain rfl := Option.some.inj h
   obtain ⟨bs, k1, k2⟩ := xres_ok hX hR h2
   have : ∃ b, outC P t L r b ∧ RV ρ v b := by
    cases r with
    | tmp s =>
     simp only [xres, Option.some.injEq] at h1
     subst h1
     exact ⟨t s, rfl, hR.sl s⟩
    | cell c T =>
     simp only [xres] at h1
     split at h1
     ·rename_i id o a z m b hl ha hi
      have hc := hR.sl c
      rw [hl] at hc
      simp only [RV] at hc
      obtain ⟨g, hg, hc⟩ := hc
      obtain ⟨u, hu, hag⟩ : ∃ u, P.underlying T = some u ∧ aggT u = a := by
       unfold aggB at ha
       split at ha
       ·rename_i u hu; exact ⟨u, okU_fnd hX.U hu, Option.some.inj ha⟩
       ·cases ha
      have hI := okI_fnd hX.I hi
      split at h1
      ·rename_i e ap cs hf
       obtain ⟨row, hL, hrow⟩ := (hR.rw id _ hf).some_g hg
       simp only [RRow] at hrow
       obtain ⟨-, -, hrow⟩ := hrow
       have hlen := hrow.length
       split at h1
       ·split at h1
        ·rename_i hle
         obtain rfl := Option.some.inj h1
         rw [bleN, decide_eq_true_eq, xlen_eq] at hle
         have hm : ((row.cs.drop o).take m).length = m := by rw [List.length_take, List.length_drop]; omega
         refine ⟨.agg ((row.cs.drop o).take m), ⟨g, o, row, u, by simpa using hc, hL, hu, .inl ⟨hag, z, b, (row.cs.drop o).take m, by rw [hm]; exact hI, by rw [hm], by rw [hm]; omega, rfl⟩⟩, ?_⟩
         simp only [RV]
         exact ⟨_, rfl, by rw [xtake_eq, xdrop_eq]; exact (hrow.drop o).take m⟩
        ·cases h1
       ·split at h1
        ·rename_i hlt
         obtain rfl := Option.some.inj h1
         obtain ⟨b', hb, hv⟩ := hrow.getD' o hlt
         exact ⟨b', ⟨g, o, row, u, by simpa using hc, hL, hu, .inr ⟨hag, hb⟩⟩, hv⟩
        ·cases h1
      ·cases h1
     ·cases h1
   obtain ⟨b, e1, e2⟩ := this
   exact ⟨b :: bs, ⟨e1, k1⟩, by simp only [RVL]; exact ⟨e2, k2⟩⟩
  ·cases h
theorem xout_ok : ∀ {vs : List XV} {bs : List AV}, RVL ρ vs bs → RV ρ (xout vs) (out1 bs)
 | [], [], h => by simp only [xout, out1, RV]; exact ⟨_, rfl, h⟩
 | [v], [b], h => by simp only [RVL] at h; exact h.1
 | v :: v2 :: vs, b :: b2 :: bs, h => by simp only [xout, out1, RV]; exact ⟨_, rfl, h⟩
 | [v], b :: b2 :: bs, h => by simp [RVL] at h
 | v :: v2 :: vs, [b], h => by simp [RVL] at h
 | [], _ :: _, h => by simp [RVL] at h
 | _ :: _, [], h => by simp [RVL] at h
theorem fun_ok {X : Cx} (hX : X.ok P) {f : FuncId} {fn : Func} {c : Code} (hf : P.funcs[f]? = some fn) (hb : fn.body = some c) {bs : List AV} (hn : bs.length ≤ fn.ntmps) {sc : Sc} {R : XV → XS → Prop} (hR : Rel F ρ S (tm0 bs) L) (h : xwp X fn.ntmps c sc S (retX X fn.results.toList R)) :
  JF P f bs L fun v L1 => ∃ ρ' S' t' xv, Rel F ρ' S' t' L1 ∧ RV ρ' xv v ∧ R xv S' := by
 refine JF.bodyC hf hb hn ((xwp_ok hX c sc S _ ρ _ L h hR).mono ?_)
 rintro e t1 L1 ⟨ρ1, S1, hR1, hq⟩
 have fin : (match xress X S1 fn.results.toList with | some vs => R (xout vs) S1.pl | none => False) → ∃ vs L', outsC P t1 L1 fn.results.toList vs ∧ (∀ g r, L' g = some r → L1 g = some r) ∧ ∃ ρ' S' t' xv, Rel F ρ' S' t' L' ∧ RV ρ' xv (out1 vs) ∧ R xv S' := by
  intro hq
  split at hq
  ·rename_i vs hvs
   obtain ⟨bs, k1, k2⟩ := xres_ok hX hR1 hvs
   exact ⟨bs, L1, k1, fun _ _ h => h, ρ1, S1.pl, t1, xout vs, hR1.pl, xout_ok k2, hq⟩
  ·exact hq.elim
 cases e with
 | normal => exact fin hq
 | ret => exact fin hq
 | _ => exact hq.elim
theorem look_slots {ρ : Rho} : ∀ {args : List XV} {bs : List AV} (k : Nat), RVL ρ args bs → ∀ i, RV ρ (look (xslots k args) i) (if k ≤ i then bs.getD (i - k) .top else .top) ∨ look (xslots k args) i = .top
 | [], [], k, _, i => .inr rfl
 | x :: args, b :: bs, k, h, i => by
  simp only [RVL] at h
  simp only [xslots]
  rw [look_put]
  by_cases hi : i = k
  ·rw [if_pos hi, if_pos (by omega), hi]
   left
   simpa using h.1
  ·rw [if_neg hi]
   rcases look_slots (k + 1) h.2 i with h1 | h1
   ·by_cases hk : k + 1 ≤ i
    ·rw [if_pos hk] at h1
     left
     rw [if_pos (by omega), show i - k = (i - (k + 1)) + 1 by omega]
     simpa using h1
    ·rw [if_neg hk] at h1
     left
     rw [if_neg (by omega)]
     exact h1
   ·exact .inr h1
 | [], _ :: _, _, h, _ => by simp [RVL] at h
 | _ :: _, [], _, h, _ => by simp [RVL] at h
def noRho : Rho := fun _ => none
theorem rel0 {args : List XV} {bs : List AV} (h : RVL noRho args bs) : Rel ⟨L, 0, []⟩ noRho ⟨xslots 0 args, [], 0, false, []⟩ (tm0 bs) L := by
 refine ⟨fun i => ?_, fun id r h => by simp [findR] at h, fun id _ _ h => by simp [findR] at h, fun _ _ => rfl, fun b r h => ⟨h, fun id hi => by simp [findR] at hi⟩, fun h => (by cases h), by simp [RVL]⟩
 rcases look_slots 0 h i with h1 | h1
 ·simpa [tm0] using h1
 ·show RV _ (look (xslots 0 args) i) _
  rw [h1]; simp [RV]
theorem off_F (hR : Rel F ρ S t L) : Off ρ S F.F := by
 intro id g e ap n sz f hf hg
 cases hF : F.F g with
 | none => rfl
 | some r => exact absurd hg ((hR.fr g r hF).2 id (by rw [hf]; rfl))
theorem dom_F (hR : Rel F ρ S t L) : ∀ b, L b = none → F.F b = none := by
 intro b hb
 cases hF : F.F b with
 | none => rfl
 | some r => rw [(hR.fr b r hF).1] at hb; cases hb
theorem rows_F (hR : Rel F ρ S t L) (hrows : ∀ g r, L g = some r → RowR L w g r) : ∀ g r, F.F g = some r → RowR F.F w g r := fun g r hg =>
 (hrows g r (hR.fr g r hg).1).ext (Ext.drop w (dom_F hR)) rfl
theorem row_out (hR : Rel F ρ S t L) (hrows : ∀ g r, L g = some r → RowR L w g r) {id g : Nat} {T : TypeId} {ap : Bool} {cells : List XV} (hg : ρ id = some (some g)) (h : rowIs S id T ap cells) (hp : pdL cells = true) :
  (∀ b r, upd F.F g ⟨T, ap, toAVL cells⟩ b = some r → RowR (upd F.F g ⟨T, ap, toAVL cells⟩) w b r) ∧ (∀ b, L b = none → upd F.F g ⟨T, ap, toAVL cells⟩ b = none) ∧ Off ρ S (upd F.F g ⟨T, ap, toAVL cells⟩) ∧ F.F g = none := by
 unfold rowIs at h
 split at h
 ·rename_i e ap' ds hf
  obtain ⟨⟨rfl, rfl⟩, h⟩ := h
  obtain ⟨row, hL, hrow⟩ := (hR.rw id _ hf).some_g hg
  simp only [RRow] at hrow
  obtain ⟨q1, q2, q3⟩ := hrow
  have hFg : F.F g = none := by
   cases hF : F.F g with
   | none => rfl
   | some r => exact absurd hg ((hR.fr g r hF).2 id (by rw [hf]; rfl))
  have hd : ∀ b, L b = none → upd F.F g ⟨e, ap', toAVL cells⟩ b = none := by
   intro b hb
   rw [upd_ne]
   ·exact dom_F hR b hb
   ·rintro rfl; rw [hL] at hb; cases hb
  have ho : Off ρ S (upd F.F g ⟨e, ap', toAVL cells⟩) := by
   intro id' g' e' ap2 n sz f hf' hg'
   rw [upd_ne]
   ·exact off_F hR id' g' _ _ _ _ _ hf' hg'
   ·rintro rfl
    have := hR.inj id' id _ (by rw [hf']; rfl) (by rw [hf]; rfl) hg' hg
    subst this
    rw [hf] at hf'; cases hf'
  refine ⟨fun b r hb => ?_, hd, ho, hFg⟩
  by_cases hbg : b = g
  ·subst hbg
   rw [upd_same] at hb
   obtain rfl := Option.some.inj hb
   obtain ⟨c, fr, vs, hh, ha, hfz, hle, hvs, hv, h1⟩ := (hrows b row hL).c (by unfold Row.isc; rw [q2]; trivial)
   have hv2 := RXL_VS hR hrows hd ho cells ds row.cs vs hp h q3 hv
   have hlen : (toAVL cells).length = row.cs.length := by rw [hv2.length, ← hv.length]
   refine ⟨c, fr, vs, by rw [← q1]; exact hh, fun h => ha (by rw [q2]; exact h), hfz, by rw [hlen]; exact hle, by rw [hlen]; exact hvs, hv2, h1⟩
  ·rw [upd_ne _ _ _ _ hbg] at hb
   exact (hrows b r (hR.fr b r hb).1).ext (Ext.drop w hd) rfl
 ·exact h.elim
theorem ct_ok {X : Cx} (hX : X.ok P) {f : FuncId} {fn : Func} (hf : P.funcs[f]? = some fn) (hb : fn.body = some (bodyOf fn)) (hr : (fn.name == "runtime.NumGoroutine") = false) {C : CT}
  (h : ∀ args cs v, C args = some (cs, v) → (∀ p ∈ cs, p) → Nat.ble args.length fn.ntmps = true ∧ pdL args = true ∧ v.pd = true ∧ ∃ sc, funC X fn sc args v) : CTok P f C := by
 refine ⟨⟨fn, bodyOf fn, hf, hb, hr⟩, fun args cs v hC hc ρ bs hargs => ?_⟩
 obtain ⟨h0, h1, h2, sc, h3⟩ := h args cs v hC hc
 have hbs := RVL.pd _ _ h1 hargs
 subst hbs
 refine ⟨toAV v, pd_RV ρ v h2, fun L => ?_⟩
 rw [bleN, decide_eq_true_eq] at h0
 refine (fun_ok hX hf hb (by rw [toAVL_length]; exact h0) (rel0 (pd_RVL noRho args h1)) h3).conv ?_
 rintro b L1 w x ⟨ρ', S', t', xv, hR, hv, hq⟩ hrows hx
 exact ⟨toAV v, L, RX_VS hR hrows (dom_F hR) (off_F hR) v xv b x h2 hq hv hx, rows_F hR hrows, dom_F hR, rfl, rfl⟩
theorem Cx.ok.addC {X : Cx} (hX : X.ok P) {f : FuncId} {C : CT} (h : CTok P f C) : ({ X with C := (f, C) :: X.C } : Cx).ok P :=
 ⟨hX.U, hX.I, fun g D hg => by
  simp only [fnd, beqN] at hg
  by_cases e : g = f
  ·rw [decide_eq_true e, cond_true] at hg
   obtain rfl := Option.some.inj hg
   rw [e]; exact h
  ·rw [decide_eq_false e, cond_false] at hg
   exact hX.C g D hg, hX.H, hX.N, hX.M, hX.L, hX.E⟩
theorem Cx.ok.addL {X : Cx} (hX : X.ok P) {f : FuncId} {C : IT} (h : ITok P f C) : ({ X with L := (f, C) :: X.L } : Cx).ok P :=
 ⟨hX.U, hX.I, hX.C, hX.H, hX.N, hX.M, fun g D hg => by
  simp only [fnd, beqN] at hg
  by_cases e : g = f
  ·rw [decide_eq_true e, cond_true] at hg
   obtain rfl := Option.some.inj hg
   rw [e]; exact h
  ·rw [decide_eq_false e, cond_false] at hg
   exact hX.L g D hg, hX.E⟩
theorem exv {X : Cx} {fn : Func} {args : List XV} {v : XV} {p : Prop} {sc : Sc} (e : p = funC X fn sc args v) (h : p) : ∃ sc, funC X fn sc args v := ⟨sc, e ▸ h⟩
theorem exvN {X : Cx} {fn : Func} {args : List XV} {T : TypeId} {c : List XV} {p : Prop} {sc : Sc} (e : p = funN X fn sc args T c) (h : p) : ∃ sc, funN X fn sc args T c := ⟨sc, e ▸ h⟩
theorem via {p q : Prop} (e : p = q) (h : p) : q := by rw [← e]; exact h
theorem in64.mk {i : Int} (h0 : -9223372036854775808 ≤ i) (h1 : i ≤ 9223372036854775807) : in64 i := ⟨h0, h1⟩
def DcOk {α : Type} (d : Dc α) : Prop := ∀ x cs a, d.dec x = some (cs, a) → (∀ p ∈ cs, p) → x.pd = true ∧ (d.enc a).pd = true ∧ ∀ L w z, VS L w (toAV x) z → VS L w (toAV (d.enc a)) z
def DcEq {α : Type} (d : Dc α) : Prop := ∀ x cs a, d.dec x = some (cs, a) → (∀ p ∈ cs, p) → x.pd = true ∧ (d.enc a).pd = true ∧ toAV x = toAV (d.enc a)
theorem DcEq.ok {α : Type} {d : Dc α} (h : DcEq d) : DcOk d := fun x cs a hd hc => by
 obtain ⟨h1, h2, h3⟩ := h x cs a hd hc
 exact ⟨h1, h2, fun L w z hz => by rw [← h3]; exact hz⟩
theorem dInt_eq : DcEq dInt := fun x cs a h _ => by
 simp only [dInt] at h
 split at h
 ·rename_i hi
  simp only [Option.some.injEq, Prod.mk.injEq] at h
  obtain ⟨-, rfl⟩ := h
  rw [intO_eq hi]
  exact ⟨rfl, rfl, rfl⟩
 ·cases h
theorem dBool_eq : DcEq dBool := fun x cs a h _ => by
 simp only [dBool] at h
 split at h
 ·rename_i hi
  simp only [Option.some.injEq, Prod.mk.injEq] at h
  obtain ⟨-, rfl⟩ := h
  rw [boolO_eq hi]
  exact ⟨rfl, rfl, rfl⟩
 ·cases h
theorem dStr_eq : DcEq dStr := fun x cs a h _ => by
 simp only [dStr] at h
 split at h
 ·rename_i hi
  simp only [Option.some.injEq, Prod.mk.injEq] at h
  obtain ⟨-, rfl⟩ := h
  rw [strO_eq hi]
  exact ⟨rfl, rfl, rfl⟩
 ·cases h
theorem dSl_ok {β : Type} {sz : Nat} {r : List XV → β} {e : β → List XV} {d : β} : DcOk (dSl sz r e d) := fun x cs a h hc => by
 simp only [dSl] at h
 split at h
 ·rename_i n s f
  split at h
  ·rename_i hb
   rw [beqN, decide_eq_true_eq] at hb
   simp only [Option.some.injEq, Prod.mk.injEq] at h
   obtain ⟨rfl, rfl⟩ := h
   subst hb
   refine ⟨rfl, rfl, fun L w z hz => ?_⟩
   simp only [dSl, sqX, toAV] at hz ⊢
   have := all1 hc
   rw [← vecOf_congr (g := fun i => toAVL (f i)) fun j hj => by rw [← this j hj]]
   exact hz
  ·cases h
 ·split at h
  ·rename_i hn
   simp only [Option.some.injEq, Prod.mk.injEq] at h
   obtain ⟨-, rfl⟩ := h
   rw [nilO_eq hn]
   refine ⟨rfl, rfl, fun L w z hz => ?_⟩
   simp only [toAV, VS] at hz
   rw [hz]
   exact VS_fz0 _ _
  ·cases h
theorem JF.weakArgs {f : FuncId} {bs bs' : List AV} {R : AV → GH → Prop} (h : JF P f bs' L R) (k : ∀ w xs, VSL L w bs xs → VSL L w bs' xs) : JF P f bs L R := fun w xs hg hv hw => h w xs hg (k w xs hv) hw
theorem ct_ok2 {X : Cx} (hX : X.ok P) {f : FuncId} {fn : Func} (hf : P.funcs[f]? = some fn) (hb : fn.body = some (bodyOf fn)) (hr : (fn.name == "runtime.NumGoroutine") = false) {C : CT}
  (h : ∀ args cs v, C args = some (cs, v) → (∀ p ∈ cs, p) → ∃ args', Nat.ble args'.length fn.ntmps = true ∧ pdL args = true ∧ pdL args' = true ∧ (∀ L w zs, VSL L w (toAVL args) zs → VSL L w (toAVL args') zs) ∧ v.pd = true ∧ ∃ sc, funC X fn sc args' v) : CTok P f C := by
 refine ⟨⟨fn, bodyOf fn, hf, hb, hr⟩, fun args cs v hC hc ρ bs hargs => ?_⟩
 obtain ⟨args', h0, h1, h1', hw, h2, sc, h3⟩ := h args cs v hC hc
 have hbs := RVL.pd _ _ h1 hargs
 subst hbs
 refine ⟨toAV v, pd_RV ρ v h2, fun L => ?_⟩
 rw [bleN, decide_eq_true_eq] at h0
 refine JF.weakArgs ((fun_ok hX hf hb (by rw [toAVL_length]; exact h0) (rel0 (pd_RVL noRho args' h1')) h3).conv ?_) (hw L)
 rintro b L1 w x ⟨ρ', S', t', xv, hR, hv, hq⟩ hrows hx
 exact ⟨toAV v, L, RX_VS hR hrows (dom_F hR) (off_F hR) v xv b x h2 hq hv hx, rows_F hR hrows, dom_F hR, rfl, rfl⟩
theorem C0_ok {X : Cx} (hX : X.ok P) {f : FuncId} {fn : Func} (hf : P.funcs[f]? = some fn) (hb : fn.body = some (bodyOf fn)) (hr : (fn.name == "runtime.NumGoroutine") = false) {cs : List Prop} {v : XV}
  (hp : v.pd = true) (h : (∀ p ∈ cs, p) → ∃ sc, funC X fn sc [] v) : CTok P f (C0 cs v) := ct_ok2 hX hf hb hr fun args cs' v' hC hc => by
 unfold C0 at hC
 split at hC
 ·simp only [Option.some.injEq, Prod.mk.injEq] at hC
  obtain ⟨rfl, rfl⟩ := hC
  exact ⟨[], by simp [bleN], rfl, rfl, fun _ _ _ h => h, hp, h hc⟩
 ·cases hC
theorem C1_ok {X : Cx} (hX : X.ok P) {f : FuncId} {fn : Func} (hf : P.funcs[f]? = some fn) (hb : fn.body = some (bodyOf fn)) (hr : (fn.name == "runtime.NumGoroutine") = false) {α : Type} {d : Dc α} {cs : α → List Prop} {v : α → XV}
  (hd : DcOk d) (hn : Nat.ble 1 fn.ntmps = true) (hp : ∀ a, (v a).pd = true) (h : ∀ a, (∀ p ∈ cs a, p) → ∃ sc, funC X fn sc [d.enc a] (v a)) : CTok P f (C1 d cs v) := ct_ok2 hX hf hb hr fun args cs' v' hC hc => by
 unfold C1 at hC
 split at hC
 ·split at hC
  ·rename_i p a hx
   simp only [Option.some.injEq, Prod.mk.injEq] at hC
   obtain ⟨rfl, rfl⟩ := hC
   obtain ⟨h1, h2, h3⟩ := hd _ p a hx (allL hc)
   refine ⟨[d.enc a], hn, by simp [pdL, h1], by simp [pdL, h2], fun L w zs hz => ?_, hp a, h a (allR hc)⟩
   match zs, hz with
   | [z], hz => simp only [toAVL, VSL] at hz ⊢; exact ⟨h3 L w z hz.1, trivial⟩
   | [], hz => simp [toAVL, VSL] at hz
   | _ :: _ :: _, hz => simp [toAVL, VSL] at hz
  ·cases hC
 ·cases hC
theorem C2_ok {X : Cx} (hX : X.ok P) {f : FuncId} {fn : Func} (hf : P.funcs[f]? = some fn) (hb : fn.body = some (bodyOf fn)) (hr : (fn.name == "runtime.NumGoroutine") = false) {α β : Type} {d : Dc α} {e : Dc β} {cs : α → β → List Prop} {v : α → β → XV}
  (hd : DcOk d) (he : DcOk e) (hn : Nat.ble 2 fn.ntmps = true) (hp : ∀ a b, (v a b).pd = true) (h : ∀ a b, (∀ p ∈ cs a b, p) → ∃ sc, funC X fn sc [d.enc a, e.enc b] (v a b)) : CTok P f (C2 d e cs v) := ct_ok2 hX hf hb hr fun args cs' v' hC hc => by
 unfold C2 at hC
 split at hC
 ·split at hC
  ·rename_i p a q b hx hy
   simp only [Option.some.injEq, Prod.mk.injEq] at hC
   obtain ⟨rfl, rfl⟩ := hC
   obtain ⟨h1, h2, h3⟩ := hd _ p a hx (allL hc)
   obtain ⟨k1, k2, k3⟩ := he _ q b hy (allL (allR hc))
   refine ⟨[d.enc a, e.enc b], hn, by simp [pdL, h1, k1], by simp [pdL, h2, k2], fun L w zs hz => ?_, hp a b, h a b (allR (allR hc))⟩
   match zs, hz with
   | [z, z2], hz => simp only [toAVL, VSL] at hz ⊢; exact ⟨h3 L w z hz.1, k3 L w z2 hz.2.1, trivial⟩
   | [], hz => simp [toAVL, VSL] at hz
   | [_], hz => simp [toAVL, VSL] at hz
   | _ :: _ :: _ :: _, hz => simp [toAVL, VSL] at hz
  ·cases hC
 ·cases hC
theorem C3_ok {X : Cx} (hX : X.ok P) {f : FuncId} {fn : Func} (hf : P.funcs[f]? = some fn) (hb : fn.body = some (bodyOf fn)) (hr : (fn.name == "runtime.NumGoroutine") = false) {α β γ : Type} {d : Dc α} {e : Dc β} {g : Dc γ} {cs : α → β → γ → List Prop} {v : α → β → γ → XV}
  (hd : DcOk d) (he : DcOk e) (hg : DcOk g) (hn : Nat.ble 3 fn.ntmps = true) (hp : ∀ a b c, (v a b c).pd = true) (h : ∀ a b c, (∀ p ∈ cs a b c, p) → ∃ sc, funC X fn sc [d.enc a, e.enc b, g.enc c] (v a b c)) : CTok P f (C3 d e g cs v) := ct_ok2 hX hf hb hr fun args cs' v' hC hc => by
 unfold C3 at hC
 split at hC
 ·split at hC
  ·rename_i p a q b r c hx hy hz
   simp only [Option.some.injEq, Prod.mk.injEq] at hC
   obtain ⟨rfl, rfl⟩ := hC
   obtain ⟨h1, h2, h3⟩ := hd _ p a hx (allL hc)
   obtain ⟨k1, k2, k3⟩ := he _ q b hy (allL (allR hc))
   obtain ⟨m1, m2, m3⟩ := hg _ r c hz (allL (allR (allR hc)))
   refine ⟨[d.enc a, e.enc b, g.enc c], hn, by simp [pdL, h1, k1, m1], by simp [pdL, h2, k2, m2], fun L w zs hz => ?_, hp a b c, h a b c (allR (allR (allR hc)))⟩
   match zs, hz with
   | [z, z2, z3], hz => simp only [toAVL, VSL] at hz ⊢; exact ⟨h3 L w z hz.1, k3 L w z2 hz.2.1, m3 L w z3 hz.2.2.1, trivial⟩
   | [], hz => simp [toAVL, VSL] at hz
   | [_], hz => simp [toAVL, VSL] at hz
   | [_, _], hz => simp [toAVL, VSL] at hz
   | _ :: _ :: _ :: _ :: _, hz => simp [toAVL, VSL] at hz
  ·cases hC
 ·cases hC
theorem nt_ok2 {X : Cx} (hX : X.ok P) {f : FuncId} {fn : Func} (hf : P.funcs[f]? = some fn) (hb : fn.body = some (bodyOf fn)) (hr : (fn.name == "runtime.NumGoroutine") = false) {T : TypeId} {M : NT}
  (h : ∀ args cs cells, M args = some (cs, cells) → (∀ p ∈ cs, p) → ∃ args', Nat.ble args'.length fn.ntmps = true ∧ pdL args = true ∧ pdL args' = true ∧ (∀ L w zs, VSL L w (toAVL args) zs → VSL L w (toAVL args') zs) ∧ pdL cells = true ∧ ∃ sc, funN X fn sc args' T cells) : NTok P f T M := by
 refine ⟨⟨fn, bodyOf fn, hf, hb, hr⟩, fun args cs cells hM hc ρ bs hargs => ?_⟩
 obtain ⟨args', h0, h1, h1', hw, h2, sc, h3⟩ := h args cs cells hM hc
 have hbs := RVL.pd _ _ h1 hargs
 subst hbs
 refine ⟨toAVL cells, pd_RVL ρ cells h2, fun L => ?_⟩
 rw [bleN, decide_eq_true_eq] at h0
 refine JF.weakArgs ((fun_ok hX hf hb (by rw [toAVL_length]; exact h0) (rel0 (pd_RVL noRho args' h1')) h3).conv ?_) (hw L)
 rintro b L1 w x ⟨ρ', S', t', xv, hR, hv, hq⟩ hrows hx
 unfold ptrIs at hq
 split at hq
 ·rename_i id
  simp only [RV] at hv
  obtain ⟨g, hg, rfl⟩ := hv
  obtain ⟨k1, k2, k3, k4⟩ := row_out hR hrows hg hq h2
  refine ⟨.ptr g 0, _, ?_, k1, k2, g, k4, rfl, rfl⟩
  simpa [VS] using hx
 ·exact hq.elim
end
end Go.Proofs.YtaglpckihegmoaaDoorAv
namespace Go.Proofs.YtaglpckihegmoaaDoorAv
open Go Go.RowKit
theorem Below.same' {w w' : World} (h : w' = w) : Below w.heap.size w w' := by rw [h]; exact Below.refl _ _
theorem Below.ext' {L : GH} {w w' : World} (h : Below w.heap.size w w') : Ext L w L w' :=
 ⟨h.os, h.tape, h.output, h.size, fun b hb _ => h.block b hb, fun b _ hl => hl, fun b c e fr hc => ⟨c, e, fr, by
  have hb : b < w.heap.size := by
   rcases Nat.lt_or_ge b w.heap.size with h' | h'
   ·exact h'
   ·rw [Array.getElem?_eq_none h'] at hc; cases hc
  rw [h.block b hb]; exact hc, rfl⟩⟩
section
variable {P : Program}
theorem JF.lib {f : FuncId} {args : List AV} {L : GH} {v : AV}
  (h : ∀ w xs, Glb L w → (∀ g, w.heap.size ≤ g → L g = none) → VSL L w args xs → Calls P f xs.toArray w fun e w' => ∃ x, e = .returned x ∧ VS L w' v x ∧ Below w.heap.size w w') : JF P f args L (fun r L' => r = v ∧ L' = L) := by
 intro w xs hg hv hrows
 refine (h w xs hg (fun g hg => ?_) hv).mono fun e w' ⟨x, he, hx, hb⟩ => ⟨v, x, L, he, hx, fun g r hr => ?_, Below.ext' hb, rfl, rfl⟩
 ·cases hl : L g with
  | none => rfl
  | some r => exact absurd (hrows g r hl).lt (by omega)
 ·have k := hrows g r hr
  have hb' : g < w.heap.size := k.lt
  exact k.ext (Below.ext' hb) (hb.block g hb')
theorem ct_lib {f : FuncId} {fn : Func} {c : Code} (hf : P.funcs[f]? = some fn) (hb : fn.body = some c) (hr : (fn.name == "runtime.NumGoroutine") = false) {C : CT}
  (h : ∀ args cs v, C args = some (cs, v) → (∀ p ∈ cs, p) → pdL args = true ∧ v.pd = true ∧ ∀ L w xs, Glb L w → (∀ g, w.heap.size ≤ g → L g = none) → VSL L w (toAVL args) xs →
   Calls P f xs.toArray w fun e w' => ∃ x, e = .returned x ∧ VS L w' (toAV v) x ∧ Below w.heap.size w w') : CTok P f C := by
 refine ⟨⟨fn, c, hf, hb, hr⟩, fun args cs v hC hc ρ bs ha => ?_⟩
 obtain ⟨h1, h2, h3⟩ := h args cs v hC hc
 refine ⟨toAV v, pd_RV ρ v h2, fun L => ?_⟩
 rw [RVL.pd args bs h1 ha]
 exact JF.lib fun w xs hg hfr hv => h3 L w xs hg hfr hv
theorem ct_lib2 {f : FuncId} {fn : Func} {c : Code} (hf : P.funcs[f]? = some fn) (hb : fn.body = some c) (hr : (fn.name == "runtime.NumGoroutine") = false) {α β : Type} {d : Dc α} {e : Dc β} (hd : DcOk d) (he : DcOk e) {cs : α → β → List Prop} {v : α → β → XV} (hv : ∀ a b, (v a b).pd = true)
  (h : ∀ a b, (∀ p ∈ cs a b, p) → ∀ L w x y, Glb L w → (∀ g, w.heap.size ≤ g → L g = none) → VS L w (toAV (d.enc a)) x → VS L w (toAV (e.enc b)) y → Calls P f #[x, y] w fun en w' => ∃ z, en = .returned z ∧ VS L w' (toAV (v a b)) z ∧ Below w.heap.size w w') : CTok P f (C2 d e cs v) :=
 ct_lib hf hb hr fun args ps u hC hc => by
  unfold C2 at hC
  split at hC
  ·split at hC
   ·rename_i p a q b hx hy
    simp only [Option.some.injEq, Prod.mk.injEq] at hC
    obtain ⟨rfl, rfl⟩ := hC
    obtain ⟨h1, h2, h3⟩ := hd _ p a hx fun r hr => hc r (by simp [hr])
    obtain ⟨k1, k2, k3⟩ := he _ q b hy fun r hr => hc r (by simp [hr])
    refine ⟨by simp [pdL, h1, k1], hv _ _, fun L w xs hg hfr hz => ?_⟩
    match xs, hz with
    | [x, y], hz =>
     simp only [toAVL, VSL] at hz
     exact h a b (fun r hr => hc r (by simp [hr])) L w x y hg hfr (h3 L w x hz.1) (k3 L w y hz.2.1)
    | [], hz => simp [toAVL, VSL] at hz
    | [_], hz => simp [toAVL, VSL] at hz
    | _ :: _ :: _ :: _, hz => simp [toAVL, VSL] at hz
   ·cases hC
  ·cases hC
theorem VSL_str1 {L : GH} {w : World} {a : ByteArray} {xs : List Value} (h : VSL L w [.p (.string a)] xs) : xs = [.string a] := by
 have := VSL_map_p (l := [.string a]) (xs := xs) (by simpa using h)
 exact this
theorem VSL_str2 {L : GH} {w : World} {a b : ByteArray} {xs : List Value} (h : VSL L w [.p (.string a), .p (.string b)] xs) : xs = [.string a, .string b] :=
 VSL_map_p (l := [.string a, .string b]) (xs := xs) (by simpa using h)
theorem dStr_dec {x : XV} {cs : List Prop} {a : ByteArray} (h : dStr.dec x = some (cs, a)) : x = XT a ∧ cs = [] := by
 simp only [dStr] at h
 split at h
 ·rename_i h1
  simp only [Option.some.injEq, Prod.mk.injEq] at h
  exact ⟨by rw [strO_eq h1, h.2], h.1.symm⟩
 ·cases h
theorem ct_str1 {f : FuncId} {fn : Func} {c : Code} (hf : P.funcs[f]? = some fn) (hb : fn.body = some c) (hr : (fn.name == "runtime.NumGoroutine") = false) {cs : ByteArray → List Prop} {v : ByteArray → XV} (hv : ∀ a, (v a).pd = true)
  (h : ∀ a, (∀ p ∈ cs a, p) → ∀ L w, Glb L w → (∀ g, w.heap.size ≤ g → L g = none) → Calls P f #[.string a] w fun e w' => ∃ x, e = .returned x ∧ VS L w' (toAV (v a)) x ∧ Below w.heap.size w w') : CTok P f (C1 dStr cs v) :=
 ct_lib hf hb hr fun args ps u hC hc => by
  unfold C1 at hC
  split at hC
  ·split at hC
   ·rename_i h1
    simp only [Option.some.injEq, Prod.mk.injEq] at hC
    obtain ⟨rfl, rfl⟩ := hC
    obtain ⟨rfl, rfl⟩ := dStr_dec h1
    refine ⟨by simp [pdL, XV.pd], hv _, fun L w xs hg hfr hx => ?_⟩
    obtain rfl := VSL_str1 (by simpa [toAVL, toAV] using hx)
    exact h _ (by simpa using hc) L w hg hfr
   ·cases hC
  ·cases hC
theorem ct_str2 {f : FuncId} {fn : Func} {c : Code} (hf : P.funcs[f]? = some fn) (hb : fn.body = some c) (hr : (fn.name == "runtime.NumGoroutine") = false) {cs : ByteArray → ByteArray → List Prop} {v : ByteArray → ByteArray → XV} (hv : ∀ a b, (v a b).pd = true)
  (h : ∀ a b, (∀ p ∈ cs a b, p) → ∀ L w, Glb L w → (∀ g, w.heap.size ≤ g → L g = none) → Calls P f #[.string a, .string b] w fun e w' => ∃ x, e = .returned x ∧ VS L w' (toAV (v a b)) x ∧ Below w.heap.size w w') : CTok P f (C2 dStr dStr cs v) :=
 ct_lib hf hb hr fun args ps u hC hc => by
  unfold C2 at hC
  split at hC
  ·split at hC
   ·rename_i h1 h2
    simp only [Option.some.injEq, Prod.mk.injEq] at hC
    obtain ⟨rfl, rfl⟩ := hC
    obtain ⟨rfl, rfl⟩ := dStr_dec h1
    obtain ⟨rfl, rfl⟩ := dStr_dec h2
    refine ⟨by simp [pdL, XV.pd], hv _ _, fun L w xs hg hfr hx => ?_⟩
    obtain rfl := VSL_str2 (by simpa [toAVL, toAV] using hx)
    exact h _ _ (by simpa using hc) L w hg hfr
   ·cases hC
  ·cases hC
end
def strsL (l : List ByteArray) : XV := .fz l.length 1 fun i => [XT (l.getD i ⟨#[]⟩)]
end Go.Proofs.YtaglpckihegmoaaDoorAv
namespace Go.Proofs.YtaglpckihegmoaaDoorAv
open Go Go.RowKit
def tabU : List (Nat × TypeDesc) := [(2, .int .i64),
 (3, .int .i64),
 (4, .bool),
 (5, .int .u8),
 (6, .int .u8),
 (9, .string),
 (10, .string),
 (11, .string),
 (12, .int .u64),
 (15, .pointer 129),
 (16, .pointer 132),
 (17, .pointer 140),
 (21, .int .i32),
 (22, .slice 9),
 (23, .slice 44),
 (24, .slice 46),
 (25, .struct #[{ name := "Live", type := 4, offset := 0, embedded := false, tag := "", pkgPath := "", byteOffset := 0 }, { name := "Gen", type := 3, offset := 1, embedded := false, tag := "", pkgPath := "", byteOffset := 8 }, { name := "Domains", type := 22, offset := 2, embedded := false, tag := "", pkgPath := "", byteOffset := 16 }, { name := "Default", type := 4, offset := 3, embedded := false, tag := "", pkgPath := "", byteOffset := 40 }, { name := "LLMNR", type := 4, offset := 4, embedded := false, tag := "", pkgPath := "", byteOffset := 41 }, { name := "Servers", type := 23, offset := 5, embedded := false, tag := "", pkgPath := "", byteOffset := 48 }, { name := "Locals", type := 24, offset := 6, embedded := false, tag := "", pkgPath := "", byteOffset := 72 }]),
 (26, .struct #[{ name := "Live", type := 4, offset := 0, embedded := false, tag := "", pkgPath := "", byteOffset := 0 }, { name := "Gen", type := 3, offset := 1, embedded := false, tag := "", pkgPath := "", byteOffset := 8 }, { name := "Domains", type := 22, offset := 2, embedded := false, tag := "", pkgPath := "", byteOffset := 16 }, { name := "Default", type := 4, offset := 3, embedded := false, tag := "", pkgPath := "", byteOffset := 40 }, { name := "LLMNR", type := 4, offset := 4, embedded := false, tag := "", pkgPath := "", byteOffset := 41 }, { name := "Servers", type := 23, offset := 5, embedded := false, tag := "", pkgPath := "", byteOffset := 48 }, { name := "Locals", type := 24, offset := 6, embedded := false, tag := "", pkgPath := "", byteOffset := 72 }]),
 (29, .pointer 70),
 (31, .int .i64),
 (33, .slice 3),
 (36, .map 4 3),
 (38, .map 9 3),
 (41, .slice 26),
 (43, .array 16 5),
 (44, .array 16 5),
 (45, .struct #[{ name := "Addr", type := 44, offset := 0, embedded := false, tag := "", pkgPath := "", byteOffset := 0 }, { name := "Deprecated", type := 4, offset := 16, embedded := false, tag := "", pkgPath := "", byteOffset := 16 }, { name := "Home", type := 4, offset := 17, embedded := false, tag := "", pkgPath := "", byteOffset := 17 }]),
 (46, .struct #[{ name := "Addr", type := 44, offset := 0, embedded := false, tag := "", pkgPath := "", byteOffset := 0 }, { name := "Deprecated", type := 4, offset := 16, embedded := false, tag := "", pkgPath := "", byteOffset := 16 }, { name := "Home", type := 4, offset := 17, embedded := false, tag := "", pkgPath := "", byteOffset := 17 }]),
 (48, .slice 51),
 (50, .struct #[{ name := "Kind", type := 3, offset := 0, embedded := false, tag := "", pkgPath := "", byteOffset := 0 }, { name := "N", type := 3, offset := 1, embedded := false, tag := "", pkgPath := "", byteOffset := 8 }, { name := "Link", type := 26, offset := 2, embedded := false, tag := "", pkgPath := "", byteOffset := 16 }]),
 (51, .struct #[{ name := "Kind", type := 3, offset := 0, embedded := false, tag := "", pkgPath := "", byteOffset := 0 }, { name := "N", type := 3, offset := 1, embedded := false, tag := "", pkgPath := "", byteOffset := 8 }, { name := "Link", type := 26, offset := 2, embedded := false, tag := "", pkgPath := "", byteOffset := 16 }]),
 (57, .array 4 26),
 (58, .pointer 77),
 (63, .struct #[{ name := "Name", type := 9, offset := 0, embedded := false, tag := "", pkgPath := "", byteOffset := 0 }, { name := "Type", type := 3, offset := 1, embedded := false, tag := "", pkgPath := "", byteOffset := 16 }]),
 (64, .struct #[{ name := "Name", type := 9, offset := 0, embedded := false, tag := "", pkgPath := "", byteOffset := 0 }, { name := "Type", type := 3, offset := 1, embedded := false, tag := "", pkgPath := "", byteOffset := 16 }]),
 (68, .array 4 58),
 (69, .struct #[{ name := "links", type := 57, offset := 0, embedded := false, tag := "", pkgPath := "nomenclator/link", byteOffset := 0 }, { name := "caches", type := 68, offset := 28, embedded := false, tag := "", pkgPath := "nomenclator/link", byteOffset := 384 }, { name := "gens", type := 3, offset := 32, embedded := false, tag := "", pkgPath := "nomenclator/link", byteOffset := 416 }]),
 (70, .struct #[{ name := "links", type := 57, offset := 0, embedded := false, tag := "", pkgPath := "nomenclator/link", byteOffset := 0 }, { name := "caches", type := 68, offset := 28, embedded := false, tag := "", pkgPath := "nomenclator/link", byteOffset := 384 }, { name := "gens", type := 3, offset := 32, embedded := false, tag := "", pkgPath := "nomenclator/link", byteOffset := 416 }]),
 (75, .slice 81),
 (76, .struct #[{ name := "size", type := 3, offset := 0, embedded := false, tag := "", pkgPath := "nomenclator/cache", byteOffset := 0 }, { name := "l", type := 75, offset := 1, embedded := false, tag := "", pkgPath := "nomenclator/cache", byteOffset := 8 }]),
 (77, .struct #[{ name := "size", type := 3, offset := 0, embedded := false, tag := "", pkgPath := "nomenclator/cache", byteOffset := 0 }, { name := "l", type := 75, offset := 1, embedded := false, tag := "", pkgPath := "nomenclator/cache", byteOffset := 8 }]),
 (78, .slice 142),
 (80, .struct #[{ name := "q", type := 64, offset := 0, embedded := false, tag := "", pkgPath := "nomenclator/cache", byteOffset := 0 }, { name := "outcome", type := 3, offset := 2, embedded := false, tag := "", pkgPath := "nomenclator/cache", byteOffset := 24 }, { name := "records", type := 78, offset := 3, embedded := false, tag := "", pkgPath := "nomenclator/cache", byteOffset := 32 }, { name := "until", type := 3, offset := 4, embedded := false, tag := "", pkgPath := "nomenclator/cache", byteOffset := 56 }, { name := "put", type := 3, offset := 5, embedded := false, tag := "", pkgPath := "nomenclator/cache", byteOffset := 64 }]),
 (81, .struct #[{ name := "q", type := 64, offset := 0, embedded := false, tag := "", pkgPath := "nomenclator/cache", byteOffset := 0 }, { name := "outcome", type := 3, offset := 2, embedded := false, tag := "", pkgPath := "nomenclator/cache", byteOffset := 24 }, { name := "records", type := 78, offset := 3, embedded := false, tag := "", pkgPath := "nomenclator/cache", byteOffset := 32 }, { name := "until", type := 3, offset := 4, embedded := false, tag := "", pkgPath := "nomenclator/cache", byteOffset := 56 }, { name := "put", type := 3, offset := 5, embedded := false, tag := "", pkgPath := "nomenclator/cache", byteOffset := 64 }]),
 (83, .slice 5),
 (90, .slice 21),
 (97, .struct #[{ name := "lo", type := 5, offset := 0, embedded := false, tag := "", pkgPath := "unicode/utf8", byteOffset := 0 }, { name := "hi", type := 5, offset := 1, embedded := false, tag := "", pkgPath := "unicode/utf8", byteOffset := 1 }]),
 (98, .struct #[{ name := "lo", type := 5, offset := 0, embedded := false, tag := "", pkgPath := "unicode/utf8", byteOffset := 0 }, { name := "hi", type := 5, offset := 1, embedded := false, tag := "", pkgPath := "unicode/utf8", byteOffset := 1 }]),
 (99, .array 16 98),
 (100, .int .u64),
 (106, .int .u64),
 (108, .int .u32),
 (114, .int .u16),
 (116, .slice 118),
 (117, .struct #[{ name := "From", type := 114, offset := 0, embedded := false, tag := "", pkgPath := "", byteOffset := 0 }, { name := "To", type := 114, offset := 1, embedded := false, tag := "", pkgPath := "", byteOffset := 2 }]),
 (118, .struct #[{ name := "From", type := 114, offset := 0, embedded := false, tag := "", pkgPath := "", byteOffset := 0 }, { name := "To", type := 114, offset := 1, embedded := false, tag := "", pkgPath := "", byteOffset := 2 }]),
 (119, .pointer 126),
 (121, .slice 126),
 (123, .array 3 21),
 (124, .array 3 21),
 (125, .struct #[{ name := "Lo", type := 108, offset := 0, embedded := false, tag := "", pkgPath := "", byteOffset := 0 }, { name := "Hi", type := 108, offset := 1, embedded := false, tag := "", pkgPath := "", byteOffset := 4 }, { name := "Delta", type := 124, offset := 2, embedded := false, tag := "", pkgPath := "", byteOffset := 8 }]),
 (126, .struct #[{ name := "Lo", type := 108, offset := 0, embedded := false, tag := "", pkgPath := "", byteOffset := 0 }, { name := "Hi", type := 108, offset := 1, embedded := false, tag := "", pkgPath := "", byteOffset := 4 }, { name := "Delta", type := 124, offset := 2, embedded := false, tag := "", pkgPath := "", byteOffset := 8 }]),
 (130, .array 0 16),
 (133, .int .u8),
 (134, .int .u8),
 (136, .pointer 5),
 (137, .int .i32),
 (138, .int .i32),
 (139, .struct #[{ name := "Size_", type := 12, offset := 0, embedded := false, tag := "", pkgPath := "", byteOffset := 0 }, { name := "PtrBytes", type := 12, offset := 1, embedded := false, tag := "", pkgPath := "", byteOffset := 8 }, { name := "Hash", type := 108, offset := 2, embedded := false, tag := "", pkgPath := "", byteOffset := 16 }, { name := "TFlag", type := 133, offset := 3, embedded := false, tag := "", pkgPath := "", byteOffset := 20 }, { name := "Align_", type := 5, offset := 4, embedded := false, tag := "", pkgPath := "", byteOffset := 21 }, { name := "FieldAlign_", type := 5, offset := 5, embedded := false, tag := "", pkgPath := "", byteOffset := 22 }, { name := "Kind_", type := 134, offset := 6, embedded := false, tag := "", pkgPath := "", byteOffset := 23 }, { name := "Equal", type := 135, offset := 7, embedded := false, tag := "", pkgPath := "", byteOffset := 24 }, { name := "GCData", type := 136, offset := 8, embedded := false, tag := "", pkgPath := "", byteOffset := 32 }, { name := "Str", type := 137, offset := 9, embedded := false, tag := "", pkgPath := "", byteOffset := 40 }, { name := "PtrToThis", type := 138, offset := 10, embedded := false, tag := "", pkgPath := "", byteOffset := 44 }]),
 (140, .struct #[{ name := "Size_", type := 12, offset := 0, embedded := false, tag := "", pkgPath := "", byteOffset := 0 }, { name := "PtrBytes", type := 12, offset := 1, embedded := false, tag := "", pkgPath := "", byteOffset := 8 }, { name := "Hash", type := 108, offset := 2, embedded := false, tag := "", pkgPath := "", byteOffset := 16 }, { name := "TFlag", type := 133, offset := 3, embedded := false, tag := "", pkgPath := "", byteOffset := 20 }, { name := "Align_", type := 5, offset := 4, embedded := false, tag := "", pkgPath := "", byteOffset := 21 }, { name := "FieldAlign_", type := 5, offset := 5, embedded := false, tag := "", pkgPath := "", byteOffset := 22 }, { name := "Kind_", type := 134, offset := 6, embedded := false, tag := "", pkgPath := "", byteOffset := 23 }, { name := "Equal", type := 135, offset := 7, embedded := false, tag := "", pkgPath := "", byteOffset := 24 }, { name := "GCData", type := 136, offset := 8, embedded := false, tag := "", pkgPath := "", byteOffset := 32 }, { name := "Str", type := 137, offset := 9, embedded := false, tag := "", pkgPath := "", byteOffset := 40 }, { name := "PtrToThis", type := 138, offset := 10, embedded := false, tag := "", pkgPath := "", byteOffset := 44 }]),
 (141, .struct #[{ name := "Name", type := 9, offset := 0, embedded := false, tag := "", pkgPath := "", byteOffset := 0 }, { name := "Type", type := 3, offset := 1, embedded := false, tag := "", pkgPath := "", byteOffset := 16 }, { name := "TTL", type := 3, offset := 2, embedded := false, tag := "", pkgPath := "", byteOffset := 24 }, { name := "Addr", type := 44, offset := 3, embedded := false, tag := "", pkgPath := "", byteOffset := 32 }, { name := "Text", type := 9, offset := 19, embedded := false, tag := "", pkgPath := "", byteOffset := 48 }, { name := "Data", type := 9, offset := 20, embedded := false, tag := "", pkgPath := "", byteOffset := 64 }]),
 (142, .struct #[{ name := "Name", type := 9, offset := 0, embedded := false, tag := "", pkgPath := "", byteOffset := 0 }, { name := "Type", type := 3, offset := 1, embedded := false, tag := "", pkgPath := "", byteOffset := 16 }, { name := "TTL", type := 3, offset := 2, embedded := false, tag := "", pkgPath := "", byteOffset := 24 }, { name := "Addr", type := 44, offset := 3, embedded := false, tag := "", pkgPath := "", byteOffset := 32 }, { name := "Text", type := 9, offset := 19, embedded := false, tag := "", pkgPath := "", byteOffset := 48 }, { name := "Data", type := 9, offset := 20, embedded := false, tag := "", pkgPath := "", byteOffset := 64 }])]
def tabI : List (Nat × (Value × Nat × Nat)) := [(2, (.int .i64 (0)), 1, 8),
 (3, (.int .i64 (0)), 1, 8),
 (4, (.bool false), 1, 1),
 (5, (.int .u8 (0)), 1, 1),
 (6, (.int .u8 (0)), 1, 1),
 (9, (.string ⟨#[]⟩), 1, 16),
 (10, (.string ⟨#[]⟩), 1, 16),
 (11, (.string ⟨#[]⟩), 1, 16),
 (12, (.int .u64 (0)), 1, 8),
 (15, (.pointer none), 1, 8),
 (16, (.pointer none), 1, 8),
 (17, (.pointer none), 1, 8),
 (21, (.int .i32 (0)), 1, 4),
 (22, (.slice none 0 0), 1, 24),
 (23, (.slice none 0 0), 1, 24),
 (24, (.slice none 0 0), 1, 24),
 (25, (.agg #[.bool false, .int .i64 (0), .slice none 0 0, .bool false, .bool false, .slice none 0 0, .slice none 0 0]), 7, 96),
 (26, (.agg #[.bool false, .int .i64 (0), .slice none 0 0, .bool false, .bool false, .slice none 0 0, .slice none 0 0]), 7, 96),
 (29, (.pointer none), 1, 8),
 (31, (.int .i64 (0)), 1, 8),
 (33, (.slice none 0 0), 1, 24),
 (36, (.map none), 1, 8),
 (38, (.map none), 1, 8),
 (41, (.slice none 0 0), 1, 24),
 (43, (.agg #[.int .u8 (0), .int .u8 (0), .int .u8 (0), .int .u8 (0), .int .u8 (0), .int .u8 (0), .int .u8 (0), .int .u8 (0), .int .u8 (0), .int .u8 (0), .int .u8 (0), .int .u8 (0), .int .u8 (0), .int .u8 (0), .int .u8 (0), .int .u8 (0)]), 16, 16),
 (44, (.agg #[.int .u8 (0), .int .u8 (0), .int .u8 (0), .int .u8 (0), .int .u8 (0), .int .u8 (0), .int .u8 (0), .int .u8 (0), .int .u8 (0), .int .u8 (0), .int .u8 (0), .int .u8 (0), .int .u8 (0), .int .u8 (0), .int .u8 (0), .int .u8 (0)]), 16, 16),
 (45, (.agg #[.int .u8 (0), .int .u8 (0), .int .u8 (0), .int .u8 (0), .int .u8 (0), .int .u8 (0), .int .u8 (0), .int .u8 (0), .int .u8 (0), .int .u8 (0), .int .u8 (0), .int .u8 (0), .int .u8 (0), .int .u8 (0), .int .u8 (0), .int .u8 (0), .bool false, .bool false]), 18, 18),
 (46, (.agg #[.int .u8 (0), .int .u8 (0), .int .u8 (0), .int .u8 (0), .int .u8 (0), .int .u8 (0), .int .u8 (0), .int .u8 (0), .int .u8 (0), .int .u8 (0), .int .u8 (0), .int .u8 (0), .int .u8 (0), .int .u8 (0), .int .u8 (0), .int .u8 (0), .bool false, .bool false]), 18, 18),
 (48, (.slice none 0 0), 1, 24),
 (50, (.agg #[.int .i64 (0), .int .i64 (0), .bool false, .int .i64 (0), .slice none 0 0, .bool false, .bool false, .slice none 0 0, .slice none 0 0]), 9, 112),
 (51, (.agg #[.int .i64 (0), .int .i64 (0), .bool false, .int .i64 (0), .slice none 0 0, .bool false, .bool false, .slice none 0 0, .slice none 0 0]), 9, 112),
 (57, (.agg #[.bool false, .int .i64 (0), .slice none 0 0, .bool false, .bool false, .slice none 0 0, .slice none 0 0, .bool false, .int .i64 (0), .slice none 0 0, .bool false, .bool false, .slice none 0 0, .slice none 0 0, .bool false, .int .i64 (0), .slice none 0 0, .bool false, .bool false, .slice none 0 0, .slice none 0 0, .bool false, .int .i64 (0), .slice none 0 0, .bool false, .bool false, .slice none 0 0, .slice none 0 0]), 28, 384),
 (58, (.pointer none), 1, 8),
 (63, (.agg #[.string ⟨#[]⟩, .int .i64 (0)]), 2, 24),
 (64, (.agg #[.string ⟨#[]⟩, .int .i64 (0)]), 2, 24),
 (68, (.agg #[.pointer none, .pointer none, .pointer none, .pointer none]), 4, 32),
 (69, (.agg #[.bool false, .int .i64 (0), .slice none 0 0, .bool false, .bool false, .slice none 0 0, .slice none 0 0, .bool false, .int .i64 (0), .slice none 0 0, .bool false, .bool false, .slice none 0 0, .slice none 0 0, .bool false, .int .i64 (0), .slice none 0 0, .bool false, .bool false, .slice none 0 0, .slice none 0 0, .bool false, .int .i64 (0), .slice none 0 0, .bool false, .bool false, .slice none 0 0, .slice none 0 0, .pointer none, .pointer none, .pointer none, .pointer none, .int .i64 (0)]), 33, 424),
 (70, (.agg #[.bool false, .int .i64 (0), .slice none 0 0, .bool false, .bool false, .slice none 0 0, .slice none 0 0, .bool false, .int .i64 (0), .slice none 0 0, .bool false, .bool false, .slice none 0 0, .slice none 0 0, .bool false, .int .i64 (0), .slice none 0 0, .bool false, .bool false, .slice none 0 0, .slice none 0 0, .bool false, .int .i64 (0), .slice none 0 0, .bool false, .bool false, .slice none 0 0, .slice none 0 0, .pointer none, .pointer none, .pointer none, .pointer none, .int .i64 (0)]), 33, 424),
 (75, (.slice none 0 0), 1, 24),
 (76, (.agg #[.int .i64 (0), .slice none 0 0]), 2, 32),
 (77, (.agg #[.int .i64 (0), .slice none 0 0]), 2, 32),
 (78, (.slice none 0 0), 1, 24),
 (80, (.agg #[.string ⟨#[]⟩, .int .i64 (0), .int .i64 (0), .slice none 0 0, .int .i64 (0), .int .i64 (0)]), 6, 72),
 (81, (.agg #[.string ⟨#[]⟩, .int .i64 (0), .int .i64 (0), .slice none 0 0, .int .i64 (0), .int .i64 (0)]), 6, 72),
 (83, (.slice none 0 0), 1, 24),
 (90, (.slice none 0 0), 1, 24),
 (97, (.agg #[.int .u8 (0), .int .u8 (0)]), 2, 2),
 (98, (.agg #[.int .u8 (0), .int .u8 (0)]), 2, 2),
 (99, (.agg #[.int .u8 (0), .int .u8 (0), .int .u8 (0), .int .u8 (0), .int .u8 (0), .int .u8 (0), .int .u8 (0), .int .u8 (0), .int .u8 (0), .int .u8 (0), .int .u8 (0), .int .u8 (0), .int .u8 (0), .int .u8 (0), .int .u8 (0), .int .u8 (0), .int .u8 (0), .int .u8 (0), .int .u8 (0), .int .u8 (0), .int .u8 (0), .int .u8 (0), .int .u8 (0), .int .u8 (0), .int .u8 (0), .int .u8 (0), .int .u8 (0), .int .u8 (0), .int .u8 (0), .int .u8 (0), .int .u8 (0), .int .u8 (0)]), 32, 32),
 (100, (.int .u64 (0)), 1, 8),
 (106, (.int .u64 (0)), 1, 8),
 (108, (.int .u32 (0)), 1, 4),
 (114, (.int .u16 (0)), 1, 2),
 (116, (.slice none 0 0), 1, 24),
 (117, (.agg #[.int .u16 (0), .int .u16 (0)]), 2, 4),
 (118, (.agg #[.int .u16 (0), .int .u16 (0)]), 2, 4),
 (119, (.pointer none), 1, 8),
 (121, (.slice none 0 0), 1, 24),
 (123, (.agg #[.int .i32 (0), .int .i32 (0), .int .i32 (0)]), 3, 12),
 (124, (.agg #[.int .i32 (0), .int .i32 (0), .int .i32 (0)]), 3, 12),
 (125, (.agg #[.int .u32 (0), .int .u32 (0), .int .i32 (0), .int .i32 (0), .int .i32 (0)]), 5, 20),
 (126, (.agg #[.int .u32 (0), .int .u32 (0), .int .i32 (0), .int .i32 (0), .int .i32 (0)]), 5, 20),
 (130, (.agg #[]), 0, 0),
 (133, (.int .u8 (0)), 1, 1),
 (134, (.int .u8 (0)), 1, 1),
 (136, (.pointer none), 1, 8),
 (137, (.int .i32 (0)), 1, 4),
 (138, (.int .i32 (0)), 1, 4),
 (139, (.agg #[.int .u64 (0), .int .u64 (0), .int .u32 (0), .int .u8 (0), .int .u8 (0), .int .u8 (0), .int .u8 (0), .nilFunc, .pointer none, .int .i32 (0), .int .i32 (0)]), 11, 48),
 (140, (.agg #[.int .u64 (0), .int .u64 (0), .int .u32 (0), .int .u8 (0), .int .u8 (0), .int .u8 (0), .int .u8 (0), .nilFunc, .pointer none, .int .i32 (0), .int .i32 (0)]), 11, 48),
 (141, (.agg #[.string ⟨#[]⟩, .int .i64 (0), .int .i64 (0), .int .u8 (0), .int .u8 (0), .int .u8 (0), .int .u8 (0), .int .u8 (0), .int .u8 (0), .int .u8 (0), .int .u8 (0), .int .u8 (0), .int .u8 (0), .int .u8 (0), .int .u8 (0), .int .u8 (0), .int .u8 (0), .int .u8 (0), .int .u8 (0), .string ⟨#[]⟩, .string ⟨#[]⟩]), 21, 80),
 (142, (.agg #[.string ⟨#[]⟩, .int .i64 (0), .int .i64 (0), .int .u8 (0), .int .u8 (0), .int .u8 (0), .int .u8 (0), .int .u8 (0), .int .u8 (0), .int .u8 (0), .int .u8 (0), .int .u8 (0), .int .u8 (0), .int .u8 (0), .int .u8 (0), .int .u8 (0), .int .u8 (0), .int .u8 (0), .int .u8 (0), .string ⟨#[]⟩, .string ⟨#[]⟩]), 21, 80)]
theorem tabU_ok : okU Tryd.prog tabU := ⟨by kernel_rfl, by kernel_rfl, by kernel_rfl, by kernel_rfl, by kernel_rfl, by kernel_rfl, by kernel_rfl, by kernel_rfl, by kernel_rfl, by kernel_rfl, by kernel_rfl, by kernel_rfl, by kernel_rfl, by kernel_rfl, by kernel_rfl, by kernel_rfl, by kernel_rfl, by kernel_rfl, by kernel_rfl, by kernel_rfl, by kernel_rfl, by kernel_rfl, by kernel_rfl, by kernel_rfl, by kernel_rfl, by kernel_rfl, by kernel_rfl, by kernel_rfl, by kernel_rfl, by kernel_rfl, by kernel_rfl, by kernel_rfl, by kernel_rfl, by kernel_rfl, by kernel_rfl, by kernel_rfl, by kernel_rfl, by kernel_rfl, by kernel_rfl, by kernel_rfl, by kernel_rfl, by kernel_rfl, by kernel_rfl, by kernel_rfl, by kernel_rfl, by kernel_rfl, by kernel_rfl, by kernel_rfl, by kernel_rfl, by kernel_rfl, by kernel_rfl, by kernel_rfl, by kernel_rfl, by kernel_rfl, by kernel_rfl, by kernel_rfl, by kernel_rfl, by kernel_rfl, by kernel_rfl, by kernel_rfl, by kernel_rfl, by kernel_rfl, by kernel_rfl, by kernel_rfl, by kernel_rfl, by kernel_rfl, by kernel_rfl, by kernel_rfl, by kernel_rfl, by kernel_rfl, by kernel_rfl, by kernel_rfl, trivial⟩
theorem tabI_ok : okI Tryd.prog tabI := ⟨by kernel_rfl, by kernel_rfl, by kernel_rfl, by kernel_rfl, by kernel_rfl, by kernel_rfl, by kernel_rfl, by kernel_rfl, by kernel_rfl, by kernel_rfl, by kernel_rfl, by kernel_rfl, by kernel_rfl, by kernel_rfl, by kernel_rfl, by kernel_rfl, by kernel_rfl, by kernel_rfl, by kernel_rfl, by kernel_rfl, by kernel_rfl, by kernel_rfl, by kernel_rfl, by kernel_rfl, by kernel_rfl, by kernel_rfl, by kernel_rfl, by kernel_rfl, by kernel_rfl, by kernel_rfl, by kernel_rfl, by kernel_rfl, by kernel_rfl, by kernel_rfl, by kernel_rfl, by kernel_rfl, by kernel_rfl, by kernel_rfl, by kernel_rfl, by kernel_rfl, by kernel_rfl, by kernel_rfl, by kernel_rfl, by kernel_rfl, by kernel_rfl, by kernel_rfl, by kernel_rfl, by kernel_rfl, by kernel_rfl, by kernel_rfl, by kernel_rfl, by kernel_rfl, by kernel_rfl, by kernel_rfl, by kernel_rfl, by kernel_rfl, by kernel_rfl, by kernel_rfl, by kernel_rfl, by kernel_rfl, by kernel_rfl, by kernel_rfl, by kernel_rfl, by kernel_rfl, by kernel_rfl, by kernel_rfl, by kernel_rfl, by kernel_rfl, by kernel_rfl, by kernel_rfl, by kernel_rfl, by kernel_rfl, trivial⟩
def tabE : List Nat := [43, 44, 45, 46, 63, 64, 97, 98, 99, 117, 118, 123, 124, 125, 126, 141, 142]
theorem tabE_ok : okE Tryd.prog tabE := ⟨⟨by kernel_rfl, by kernel_rfl, by decide +kernel⟩, ⟨by kernel_rfl, by kernel_rfl, by decide +kernel⟩, ⟨by kernel_rfl, by kernel_rfl, by decide +kernel⟩, ⟨by kernel_rfl, by kernel_rfl, by decide +kernel⟩, ⟨by kernel_rfl, by kernel_rfl, by decide +kernel⟩, ⟨by kernel_rfl, by kernel_rfl, by decide +kernel⟩, ⟨by kernel_rfl, by kernel_rfl, by decide +kernel⟩, ⟨by kernel_rfl, by kernel_rfl, by decide +kernel⟩, ⟨by kernel_rfl, by kernel_rfl, by decide +kernel⟩, ⟨by kernel_rfl, by kernel_rfl, by decide +kernel⟩, ⟨by kernel_rfl, by kernel_rfl, by decide +kernel⟩, ⟨by kernel_rfl, by kernel_rfl, by decide +kernel⟩, ⟨by kernel_rfl, by kernel_rfl, by decide +kernel⟩, ⟨by kernel_rfl, by kernel_rfl, by decide +kernel⟩, ⟨by kernel_rfl, by kernel_rfl, by decide +kernel⟩, ⟨by kernel_rfl, by kernel_rfl, by decide +kernel⟩, ⟨by kernel_rfl, by kernel_rfl, by decide +kernel⟩, trivial⟩
def cx0 : Cx := { U := tabU, I := tabI, C := [], H := [], N := [], L := [], E := tabE }
theorem cx0_ok : cx0.ok Tryd.prog := ⟨tabU_ok, tabI_ok, fun f C h => by simp [cx0, fnd] at h, fun f C h => by simp [cx0, fnd] at h, fun f T C h => by simp [cx0, fnd] at h, rfl, fun f C h => by simp [cx0, fnd] at h, tabE_ok⟩
end Go.Proofs.YtaglpckihegmoaaDoorAv
namespace Go.Proofs
open Go.Shelf
def Tryd.lays196_ren : Go.Shelf.Ren := ⟨fun | 196 => 47 | 259 => 55 | n => n, fun | 9 => 9 | 4 => 4 | 3 => 3 | 5 => 5 | 12 => 12 | 119 => 96 | 0 => 0 | 46 => 100 | 139 => 99 | 138 => 98 | 53 => 106 | n => n, fun | 3 => 1 | 4 => 2 | n => n⟩
theorem Tryd.lays196 : Go.Proofs.Lays.n196 Tryd.prog Tryd.lays196_ren := {
 mixed := by kernel_rfl
 f196 := Tryd.func47.trans (congrArg some (by kernel_rfl))
 f259 := Tryd.func55.trans (congrArg some (by kernel_rfl))
 t0 := Tryd.underlying0
 a0 := Tryd.isAgg0
 z0 := Tryd.sizeOf0
 v0 := Tryd.zeroValue0
 t3 := Tryd.underlying3
 a3 := Tryd.isAgg3
 z3 := Tryd.sizeOf3
 v3 := Tryd.zeroValue3
 t4 := Tryd.underlying4
 a4 := Tryd.isAgg4
 z4 := Tryd.sizeOf4
 v4 := Tryd.zeroValue4
 t5 := Tryd.underlying5
 a5 := Tryd.isAgg5
 z5 := Tryd.sizeOf5
 v5 := Tryd.zeroValue5
 t9 := Tryd.underlying9
 a9 := Tryd.isAgg9
 z9 := Tryd.sizeOf9
 v9 := Tryd.zeroValue9
 t12 := Tryd.underlying12
 a12 := Tryd.isAgg12
 z12 := Tryd.sizeOf12
 v12 := Tryd.zeroValue12
 t46 := Tryd.underlying100
 a46 := Tryd.isAgg100
 z46 := Tryd.sizeOf100
 v46 := Tryd.zeroValue100
 t53 := Tryd.underlying106
 a53 := Tryd.isAgg106
 z53 := Tryd.sizeOf106
 v53 := Tryd.zeroValue106
 t119 := Tryd.underlying96
 a119 := Tryd.isAgg96
 z119 := Tryd.sizeOf96
 t138 := Tryd.underlying98
 a138 := Tryd.isAgg98
 z138 := Tryd.sizeOf98
 v138 := Tryd.zeroValue98
 t139 := Tryd.underlying99
 a139 := Tryd.isAgg99
 z139 := Tryd.sizeOf99
 v139 := Tryd.zeroValue99
 g3 := by kernel_rfl
 g4 := by kernel_rfl }
open Go.RowKit Go.Lib in
theorem Tryd.utf8_ValidString (s : ByteArray) (w : World) (hs : s.size ≤ 9223372036854775807) (hT : Lib.Utf8Tabs 1 2 w) :
  Calls Tryd.prog 47 #[.string s] w fun e w' => e = .returned (.bool (Lib.validD s.data.toList)) ∧ Below w.heap.size w w' := Any.utf8_ValidString Tryd.lays196 s w hs hT
def Tryd.lays103_ren : Go.Shelf.Ren := ⟨fun | 103 => 53 | 210 => 63 | 206 => 52 | n => n, fun | 9 => 9 | 4 => 4 | 24 => 86 | 3 => 3 | n => n, fun | n => n⟩
theorem Tryd.lays103 : Go.Proofs.Lays.n103 Tryd.prog Tryd.lays103_ren := {
 mixed := by kernel_rfl
 f103 := Tryd.func53.trans (congrArg some (by kernel_rfl))
 f206 := Tryd.func52.trans (congrArg some (by kernel_rfl))
 f210 := Tryd.func63.trans (congrArg some (by kernel_rfl))
 t3 := Tryd.underlying3
 a3 := Tryd.isAgg3
 z3 := Tryd.sizeOf3
 v3 := Tryd.zeroValue3
 t4 := Tryd.underlying4
 a4 := Tryd.isAgg4
 z4 := Tryd.sizeOf4
 v4 := Tryd.zeroValue4
 t9 := Tryd.underlying9
 a9 := Tryd.isAgg9
 z9 := Tryd.sizeOf9
 v9 := Tryd.zeroValue9
 t24 := Tryd.underlying86
 a24 := Tryd.isAgg86
 z24 := Tryd.sizeOf86
 v24 := Tryd.zeroValue86 }
open Go.RowKit in
theorem Tryd.strings_CutPrefix (s p : ByteArray) (w : World) :
  Calls Tryd.prog 53 #[.string s, .string p] w fun e w' => e = .returned (.tuple #[.string ⟨(Lib.trimPrefix s.data.toList p.data.toList).toArray⟩, .bool (Lib.hasPrefix s.data.toList p.data.toList)]) ∧ w' = w := Any.strings_CutPrefix Tryd.lays103 s p w
def Tryd.lays104_ren : Go.Shelf.Ren := ⟨fun | 104 => 41 | 211 => 51 | 207 => 62 | n => n, fun | 9 => 9 | 4 => 4 | 24 => 86 | 3 => 3 | n => n, fun | n => n⟩
theorem Tryd.lays104 : Go.Proofs.Lays.n104 Tryd.prog Tryd.lays104_ren := {
 mixed := by kernel_rfl
 f104 := Tryd.func41.trans (congrArg some (by kernel_rfl))
 f207 := Tryd.func62.trans (congrArg some (by kernel_rfl))
 f211 := Tryd.func51.trans (congrArg some (by kernel_rfl))
 t3 := Tryd.underlying3
 a3 := Tryd.isAgg3
 z3 := Tryd.sizeOf3
 v3 := Tryd.zeroValue3
 t4 := Tryd.underlying4
 a4 := Tryd.isAgg4
 z4 := Tryd.sizeOf4
 v4 := Tryd.zeroValue4
 t9 := Tryd.underlying9
 a9 := Tryd.isAgg9
 z9 := Tryd.sizeOf9
 v9 := Tryd.zeroValue9
 t24 := Tryd.underlying86
 a24 := Tryd.isAgg86
 z24 := Tryd.sizeOf86
 v24 := Tryd.zeroValue86 }
open Go.RowKit in
theorem Tryd.strings_CutSuffix (s p : ByteArray) (w : World) (hs : s.size ≤ 9223372036854775807) :
  Calls Tryd.prog 41 #[.string s, .string p] w fun e w' => e = .returned (.tuple #[.string ⟨(Lib.trimSuffix s.data.toList p.data.toList).toArray⟩, .bool (Lib.hasSuffix s.data.toList p.data.toList)]) ∧ w' = w := Any.strings_CutSuffix Tryd.lays104 s p w hs
def Tryd.lays138_ren : Go.Shelf.Ren := ⟨fun | 138 => 34 | 195 => 38 | 218 => 39 | 143 => 40 | 219 => 50 | 217 => 58 | 225 => 59 | 224 => 60 | 267 => 61 | 266 => 69 | 314 => 70 | n => n, fun | 9 => 9 | 3 => 3 | 4 => 4 | 5 => 5 | 0 => 0 | 46 => 100 | 146 => 109 | 51 => 108 | n => n, fun | 1 => 0 | n => n⟩
theorem Tryd.lays138 : Go.Proofs.Lays.n138 Tryd.prog Tryd.lays138_ren := {
 mixed := by kernel_rfl
 f138 := Tryd.func34.trans (congrArg some (by kernel_rfl))
 f143 := Tryd.func40.trans (congrArg some (by kernel_rfl))
 f195 := Tryd.func38.trans (congrArg some (by kernel_rfl))
 f217 := Tryd.func58.trans (congrArg some (by kernel_rfl))
 f218 := Tryd.func39.trans (congrArg some (by kernel_rfl))
 f219 := Tryd.func50.trans (congrArg some (by kernel_rfl))
 f224 := Tryd.func60.trans (congrArg some (by kernel_rfl))
 f225 := Tryd.func59.trans (congrArg some (by kernel_rfl))
 f266 := Tryd.func69.trans (congrArg some (by kernel_rfl))
 f267 := Tryd.func61.trans (congrArg some (by kernel_rfl))
 f314 := Tryd.func70.trans (congrArg some (by kernel_rfl))
 t0 := Tryd.underlying0
 a0 := Tryd.isAgg0
 z0 := Tryd.sizeOf0
 v0 := Tryd.zeroValue0
 t3 := Tryd.underlying3
 a3 := Tryd.isAgg3
 z3 := Tryd.sizeOf3
 v3 := Tryd.zeroValue3
 t4 := Tryd.underlying4
 a4 := Tryd.isAgg4
 z4 := Tryd.sizeOf4
 v4 := Tryd.zeroValue4
 t5 := Tryd.underlying5
 a5 := Tryd.isAgg5
 z5 := Tryd.sizeOf5
 v5 := Tryd.zeroValue5
 t9 := Tryd.underlying9
 a9 := Tryd.isAgg9
 z9 := Tryd.sizeOf9
 v9 := Tryd.zeroValue9
 t46 := Tryd.underlying100
 a46 := Tryd.isAgg100
 z46 := Tryd.sizeOf100
 v46 := Tryd.zeroValue100
 t51 := Tryd.underlying108
 a51 := Tryd.isAgg108
 z51 := Tryd.sizeOf108
 v51 := Tryd.zeroValue108
 t146 := Tryd.underlying109
 a146 := Tryd.isAgg109
 z146 := Tryd.sizeOf109
 v146 := Tryd.zeroValue109
 g1 := by kernel_rfl }
open Go.RowKit Go.Lib in
theorem Tryd.strings_Count_one (s : ByteArray) (c : UInt8) (w : World) :
  Calls Tryd.prog 34 #[.string s, .string ⟨#[c]⟩] w fun e w' => e = .returned (.int .i64 (Lib.countByte s.data.toList c)) ∧ w' = w := Any.strings_Count_one Tryd.lays138 s c w
def Tryd.lays149_ren : Go.Shelf.Ren := ⟨fun | 149 => 64 | 222 => 71 | n => n, fun | 9 => 9 | 5 => 5 | 3 => 3 | 4 => 4 | n => n, fun | n => n⟩
theorem Tryd.lays149 : Go.Proofs.Lays.n149 Tryd.prog Tryd.lays149_ren := {
 mixed := by kernel_rfl
 f149 := Tryd.func64.trans (congrArg some (by kernel_rfl))
 f222 := Tryd.func71.trans (congrArg some (by kernel_rfl))
 t3 := Tryd.underlying3
 a3 := Tryd.isAgg3
 z3 := Tryd.sizeOf3
 v3 := Tryd.zeroValue3
 t4 := Tryd.underlying4
 a4 := Tryd.isAgg4
 z4 := Tryd.sizeOf4
 v4 := Tryd.zeroValue4
 t5 := Tryd.underlying5
 a5 := Tryd.isAgg5
 z5 := Tryd.sizeOf5
 v5 := Tryd.zeroValue5
 t9 := Tryd.underlying9
 a9 := Tryd.isAgg9
 z9 := Tryd.sizeOf9
 v9 := Tryd.zeroValue9 }
open Go.RowKit Go.Lib in
theorem Tryd.strings_LastIndexByte (s : ByteArray) (c : Int) (hs : s.size < 4611686018427387904) (w : World) :
  Calls Tryd.prog 64 #[.string s, .int .u8 c] w fun e w' => e = .returned (.int .i64 (Lib.lastIndexByte s c)) ∧ w' = w := Any.strings_LastIndexByte Tryd.lays149 s c hs w
def Tryd.lays99_ren : Go.Shelf.Ren := ⟨fun | 99 => 45 | 206 => 52 | n => n, fun | 9 => 9 | 4 => 4 | 3 => 3 | n => n, fun | n => n⟩
theorem Tryd.lays99 : Go.Proofs.Lays.n99 Tryd.prog Tryd.lays99_ren := {
 mixed := by kernel_rfl
 f99 := Tryd.func45.trans (congrArg some (by kernel_rfl))
 f206 := Tryd.func52.trans (congrArg some (by kernel_rfl))
 t3 := Tryd.underlying3
 a3 := Tryd.isAgg3
 z3 := Tryd.sizeOf3
 v3 := Tryd.zeroValue3
 t4 := Tryd.underlying4
 a4 := Tryd.isAgg4
 z4 := Tryd.sizeOf4
 v4 := Tryd.zeroValue4
 t9 := Tryd.underlying9
 a9 := Tryd.isAgg9
 z9 := Tryd.sizeOf9
 v9 := Tryd.zeroValue9 }
open Go.RowKit Go.Lib in
theorem Tryd.strings_HasPrefix (s p : ByteArray) (w : World) :
  Calls Tryd.prog 45 #[.string s, .string p] w fun e w' => e = .returned (.bool (Lib.hasPrefix s.data.toList p.data.toList)) ∧ w' = w := Any.strings_HasPrefix Tryd.lays99 s p w
def Tryd.lays164_ren : Go.Shelf.Ren := ⟨fun | 164 => 67 | 197 => 72 | 239 => 73 | 260 => 74 | 274 => 75 | 275 => 76 | n => n, fun | 9 => 9 | 4 => 4 | 3 => 3 | 5 => 5 | 0 => 0 | 21 => 21 | 105 => 111 | 156 => 115 | 49 => 114 | 157 => 116 | 46 => 100 | 159 => 118 | 162 => 121 | 160 => 119 | 119 => 96 | 139 => 99 | 138 => 98 | 208 => 126 | 51 => 108 | 206 => 124 | n => n, fun | 11 => 3 | 12 => 4 | 13 => 5 | 3 => 1 | 4 => 2 | n => n⟩
theorem Tryd.lays164 : Go.Proofs.Lays.n164 Tryd.prog Tryd.lays164_ren := {
 mixed := by kernel_rfl
 f164 := Tryd.func67.trans (congrArg some (by kernel_rfl))
 f197 := Tryd.func72.trans (congrArg some (by kernel_rfl))
 f239 := Tryd.func73.trans (congrArg some (by kernel_rfl))
 f260 := Tryd.func74.trans (congrArg some (by kernel_rfl))
 f274 := Tryd.func75.trans (congrArg some (by kernel_rfl))
 f275 := Tryd.func76.trans (congrArg some (by kernel_rfl))
 t0 := Tryd.underlying0
 a0 := Tryd.isAgg0
 z0 := Tryd.sizeOf0
 v0 := Tryd.zeroValue0
 t3 := Tryd.underlying3
 a3 := Tryd.isAgg3
 z3 := Tryd.sizeOf3
 v3 := Tryd.zeroValue3
 t4 := Tryd.underlying4
 a4 := Tryd.isAgg4
 z4 := Tryd.sizeOf4
 v4 := Tryd.zeroValue4
 t5 := Tryd.underlying5
 a5 := Tryd.isAgg5
 z5 := Tryd.sizeOf5
 v5 := Tryd.zeroValue5
 t9 := Tryd.underlying9
 a9 := Tryd.isAgg9
 z9 := Tryd.sizeOf9
 v9 := Tryd.zeroValue9
 t21 := Tryd.underlying21
 a21 := Tryd.isAgg21
 z21 := Tryd.sizeOf21
 v21 := Tryd.zeroValue21
 t46 := Tryd.underlying100
 a46 := Tryd.isAgg100
 z46 := Tryd.sizeOf100
 v46 := Tryd.zeroValue100
 t49 := Tryd.underlying114
 a49 := Tryd.isAgg114
 z49 := Tryd.sizeOf114
 v49 := Tryd.zeroValue114
 t51 := Tryd.underlying108
 a51 := Tryd.isAgg108
 z51 := Tryd.sizeOf108
 v51 := Tryd.zeroValue108
 t105 := Tryd.underlying111
 a105 := Tryd.isAgg111
 z105 := Tryd.sizeOf111
 v105 := Tryd.zeroValue111
 t119 := Tryd.underlying96
 a119 := Tryd.isAgg96
 z119 := Tryd.sizeOf96
 t138 := Tryd.underlying98
 a138 := Tryd.isAgg98
 z138 := Tryd.sizeOf98
 v138 := Tryd.zeroValue98
 t139 := Tryd.underlying99
 a139 := Tryd.isAgg99
 z139 := Tryd.sizeOf99
 v139 := Tryd.zeroValue99
 t156 := Tryd.underlying115
 a156 := Tryd.isAgg115
 z156 := Tryd.sizeOf115
 t157 := Tryd.underlying116
 a157 := Tryd.isAgg116
 z157 := Tryd.sizeOf116
 v157 := Tryd.zeroValue116
 t159 := Tryd.underlying118
 a159 := Tryd.isAgg118
 z159 := Tryd.sizeOf118
 v159 := Tryd.zeroValue118
 t160 := Tryd.underlying119
 a160 := Tryd.isAgg119
 z160 := Tryd.sizeOf119
 v160 := Tryd.zeroValue119
 t162 := Tryd.underlying121
 a162 := Tryd.isAgg121
 z162 := Tryd.sizeOf121
 v162 := Tryd.zeroValue121
 t206 := Tryd.underlying124
 a206 := Tryd.isAgg124
 z206 := Tryd.sizeOf124
 v206 := Tryd.zeroValue124
 t208 := Tryd.underlying126
 a208 := Tryd.isAgg126
 z208 := Tryd.sizeOf126
 v208 := Tryd.zeroValue126
 g3 := by kernel_rfl
 g4 := by kernel_rfl
 g11 := by kernel_rfl
 g12 := by kernel_rfl
 g13 := by kernel_rfl }
open Go.RowKit Go.Lib in
theorem Tryd.strings_EqualFold (s t : ByteArray) (w : World) (hs : s.size < 4294967281) (has : ∀ (j : Nat) b, s.data.toList[j]? = some b → b.toNat < 128) (hat : ∀ (j : Nat) b, t.data.toList[j]? = some b → b.toNat < 128) :
  Calls Tryd.prog 67 #[.string s, .string t] w fun e w' => e = .returned (.bool (Lib.equalFold s.data.toList t.data.toList)) ∧ w' = w := Any.strings_EqualFold Tryd.lays164 s t w hs has hat
end Go.Proofs
namespace Go.Proofs.YtaglpckihegmoaaDoorAv
open Go Go.RowKit
def mk8 (l : List UInt8) : ByteArray := ⟨l.toArray⟩
theorem mk8_size (l : List UInt8) : (mk8 l).size = l.length := rfl
theorem mk8_data (l : List UInt8) : (mk8 l).data.toList = l := rfl
theorem data_mk8 (b : ByteArray) : mk8 b.data.toList = b := rfl
theorem size_data (b : ByteArray) : b.size = b.data.toList.length := by rw [Array.length_toList]; rfl
def intKO (k : IntKind) : XV → Option Int
 | .v (.p (.int k' i)) => match kb k' k with
  | true => some i
  | false => none
 | _ => none
theorem intKO_eq {k : IntKind} {x : XV} {i : Int} (h : intKO k x = some i) : x = .v (.p (.int k i)) := by
 unfold intKO at h
 split at h
 ·split at h
  ·rename_i hk; rw [kb_eq hk, Option.some.inj h]
  ·cases h
 ·cases h
def dIK (k : IntKind) : Dc Int := ⟨fun x => match intKO k x with | some i => some ([], i) | none => none, fun i => .v (.p (.int k i))⟩
theorem dIK_eq (k : IntKind) : DcEq (dIK k) := fun x cs r h _ => by
 simp only [dIK] at h
 split at h
 ·rename_i h1
  simp only [Option.some.injEq, Prod.mk.injEq] at h
  obtain ⟨-, rfl⟩ := h
  rw [intKO_eq h1]
  exact ⟨rfl, rfl, rfl⟩
 ·cases h
def cutPreB (s p : ByteArray) : ByteArray × Bool := (mk8 (Lib.trimPrefix s.data.toList p.data.toList), Lib.hasPrefix s.data.toList p.data.toList)
def cutPreC : CT := C2 dStr dStr (fun _ _ => []) fun s p => .tup [XT (cutPreB s p).1, XB (cutPreB s p).2]
theorem cutPre_ok : CTok Tryd.prog 53 cutPreC := by
 refine ct_str2 Tryd.func53 rfl (by decide) (fun a b => by simp [XV.pd, pdL]) fun s p hc L w hg hfr => ?_
 refine (Tryd.strings_CutPrefix s p w).mono fun e w' ⟨he, hw⟩ => ⟨_, he, ?_, Below.same' hw⟩
 simp only [toAV, toAVL, VS]
 exact ⟨[_, _], rfl, by simp [VSL, VS, cutPreB, mk8]⟩
def cutSufB (s p : ByteArray) : ByteArray × Bool := (mk8 (Lib.trimSuffix s.data.toList p.data.toList), Lib.hasSuffix s.data.toList p.data.toList)
def cutSufC : CT := C2 dStr dStr (fun s _ => [s.size ≤ 1000000000]) fun s p => .tup [XT (cutSufB s p).1, XB (cutSufB s p).2]
theorem cutSuf_ok : CTok Tryd.prog 41 cutSufC := by
 refine ct_str2 Tryd.func41 rfl (by decide) (fun a b => by simp [XV.pd, pdL]) fun s p hc L w hg hfr => ?_
 have hs : s.size ≤ 1000000000 := hc _ (by simp)
 refine (Tryd.strings_CutSuffix s p w (by omega)).mono fun e w' ⟨he, hw⟩ => ⟨_, he, ?_, Below.same' hw⟩
 simp only [toAV, toAVL, VS]
 exact ⟨[_, _], rfl, by simp [VSL, VS, cutSufB, mk8]⟩
def hasPreB (s p : ByteArray) : Bool := Lib.hasPrefix s.data.toList p.data.toList
def hasPreC : CT := C2 dStr dStr (fun _ _ => []) fun s p => XB (hasPreB s p)
theorem hasPre_ok : CTok Tryd.prog 45 hasPreC := by
 refine ct_str2 Tryd.func45 rfl (by decide) (fun a b => by simp [XV.pd]) fun s p hc L w hg hfr => ?_
 refine (Tryd.strings_HasPrefix s p w).mono fun e w' ⟨he, hw⟩ => ⟨_, he, ?_, Below.same' hw⟩
 simp [toAV, VS, hasPreB]
def cntB (s p : ByteArray) : Int := match p.data.toList with
 | [c] => (Lib.countByte s.data.toList c : Int)
 | _ => 0
def cntC : CT := C2 dStr dStr (fun _ p => [p.size = 1]) fun s p => XI (cntB s p)
theorem cnt_ok : CTok Tryd.prog 34 cntC := by
 refine ct_str2 Tryd.func34 rfl (by decide) (fun a b => by simp [XV.pd]) fun s p hc L w hg hfr => ?_
 have hp : p.size = 1 := hc _ (by simp)
 obtain ⟨c, rfl⟩ : ∃ c, p = ⟨#[c]⟩ := by
  obtain ⟨⟨l⟩⟩ := p
  match l, hp with
  | [c], _ => exact ⟨c, rfl⟩
 refine (Tryd.strings_Count_one s c w).mono fun e w' ⟨he, hw⟩ => ⟨_, he, ?_, Below.same' hw⟩
 simp [toAV, VS, cntB]
def eqfB (s t : ByteArray) : Bool := Lib.equalFold s.data.toList t.data.toList
def ascB (s : ByteArray) : Prop := ∀ b ∈ s.data.toList, b.toNat < 128
def eqfC : CT := C2 dStr dStr (fun s t => [s.size ≤ 1000000, ascB s, ascB t]) fun s t => XB (eqfB s t)
theorem eqf_ok : CTok Tryd.prog 67 eqfC := by
 refine ct_str2 Tryd.func67 rfl (by decide) (fun a b => by simp [XV.pd]) fun s t hc L w hg hfr => ?_
 have h1 : s.size ≤ 1000000 := hc _ (by simp)
 have h2 : ascB s := hc _ (by simp)
 have h3 : ascB t := hc _ (by simp)
 refine (Tryd.strings_EqualFold s t w (by omega) (fun j b hb => h2 b (List.mem_of_getElem? hb)) (fun j b hb => h3 b (List.mem_of_getElem? hb))).mono fun e w' ⟨he, hw⟩ => ⟨_, he, ?_, Below.same' hw⟩
 simp [toAV, VS, eqfB]
def validB (s : ByteArray) : Bool := Lib.validD s.data.toList
theorem utf8_glb {L : GH} {w : World} (hg : Glb L w) : Lib.Utf8Tabs 1 2 w := by
 obtain ⟨-, -, h, -⟩ := hg 1 _ (List.mem_cons_self ..)
 obtain ⟨-, -, k, -⟩ := hg 2 _ (List.mem_cons_of_mem _ (List.mem_cons_self ..))
 have h1 : ∀ c : Fin 256, (((glbT.head?.map (·.2)).getD [])[c.val]?).map (fun v => match v with | .val (.int .u8 z) => z == (Lib.firstT c.val : Int) | _ => false) = some true := by decide +kernel
 have h2 : ∀ i : Fin 16, (((glbT.tail.head?.map (·.2)).getD [])[2 * i.val]?).map (fun v => match v with | .val (.int .u8 z) => z == (Lib.accLo i.val : Int) | _ => false) = some true ∧
   (((glbT.tail.head?.map (·.2)).getD [])[2 * i.val + 1]?).map (fun v => match v with | .val (.int .u8 z) => z == (Lib.accHi i.val : Int) | _ => false) = some true := by decide +kernel
 have go : ∀ (g : Nat) (l : List GV) (n : Nat) (z : Int), (∀ (i : Nat) (v : GV), l[i]? = some v → ∃ x, w.cell? ⟨g, i, none⟩ = some x ∧ v.is x ∧ x.oneCell' = true) → (l[n]?).map (fun v => match v with | .val (.int .u8 y) => y == z | _ => false) = some true →
   w.cell? ⟨g, n, none⟩ = some (.int .u8 z) := by
  intro g l n z hl hn
  cases hv : l[n]? with
  | none => rw [hv] at hn; cases hn
  | some v =>
   obtain ⟨x, hx, hi, -⟩ := hl n v hv
   rw [hv] at hn
   simp only [Option.map_some, Option.some.injEq] at hn
   split at hn
   ·rename_i y
    have : y = z := by simpa using hn
    subst this
    simp only [GV.is] at hi
    rw [hx, hi]
   ·cases hn
 exact ⟨fun c hc => go _ _ _ _ h (h1 ⟨c, hc⟩), fun i hi => ⟨go _ _ _ _ k (h2 ⟨i, hi⟩).1, go _ _ _ _ k (h2 ⟨i, hi⟩).2⟩⟩
def validC : CT := C1 dStr (fun s => [s.size ≤ 1000000000]) fun s => XB (validB s)
theorem valid_ok : CTok Tryd.prog 47 validC := by
 refine ct_str1 Tryd.func47 rfl (by decide) (fun a => by simp [XV.pd]) fun s hc L w hg hfr => ?_
 have h1 : s.size ≤ 1000000000 := hc _ (by simp)
 refine (Tryd.utf8_ValidString s w (by omega) (utf8_glb hg)).mono fun e w' ⟨he, hw⟩ => ⟨_, he, ?_, hw⟩
 simp [toAV, VS, validB]
def lastB (s : ByteArray) (c : Int) : Int := Lib.lastIndexByte s c
def lastC : CT := C2 dStr (dIK .u8) (fun s _ => [s.size ≤ 1000000]) fun s c => XI (lastB s c)
theorem last_ok : CTok Tryd.prog 64 lastC :=
 ct_lib2 Tryd.func64 rfl (by decide) dStr_eq.ok (dIK_eq .u8).ok (fun a b => rfl) fun s c hc L w x y hg hfr hx hy => by
  have hs : s.size ≤ 1000000 := hc _ (by simp)
  simp only [dStr, dIK, toAV, VS] at hx hy
  subst hx hy
  refine (Tryd.strings_LastIndexByte s c (by omega) w).mono fun e w' ⟨he, hw⟩ => ⟨_, he, ?_, Below.same' hw⟩
  simp [toAV, VS, lastB]
end Go.Proofs.YtaglpckihegmoaaDoorAv
namespace Go.Proofs.YtaglpckihegmoaaDoorAv
open Go Go.RowKit
theorem law_J {P : Program} {f : FuncId} {C : CT} (h : CTok P f C) {xs : List XV} {bs : List AV} {cs : List Prop} (hC : C xs = some (cs, XB true)) (hc : ∀ p ∈ cs, p) (hv : RVL (fun _ => none) xs bs) (L : GH) : JF P f bs L (fun v L' => v = boolAV true ∧ L' = L) := by
 obtain ⟨v', h1, h2⟩ := h.2 xs cs _ hC hc _ bs hv
 simp only [RV] at h1
 exact (h2 L).mono fun v L' ⟨e1, e2⟩ => ⟨by rw [e1, h1]; rfl, e2⟩
end Go.Proofs.YtaglpckihegmoaaDoorAv
namespace Go.Proofs.YtaglpckihegmoaaDoorAv
open Go Go.RowKit Go.ChangeShapes Go.WideShapes
theorem laidVars_at {P : Program} {W : World} {name : String} {d : DataW Unit} : ∀ {laid : List (String × DataW Unit)} {ps : List MemPlace}, DataW.LaidVars P W laid ps → (name, d) ∈ laid →
  ∃ g t cs fuel p, P.globalNamed name = some g ∧ (P.globals[g]?).map (·.type) = some t ∧ W.var? P name = some cs ∧ DataW.trod (fun _ => ()) P W 0 (fun _ => true) false fuel t cs.toList = some (d, p)
 | [], _, _, h => by cases h
 | (n, e) :: r, ps, h, hm => by
  simp only [DataW.LaidVars] at h
  obtain ⟨g, t, cs, fuel, p, q, h1, h2, h3, h4, h5, _⟩ := h
  rcases List.mem_cons.1 hm with hm | hm
  ·cases hm
   exact ⟨g, t, cs, fuel, p, h1, h2, h3, h4⟩
  ·exact laidVars_at h5 hm
theorem laidMetH_at {P : Program} {W : World} {laid : List (String × DataW Unit)} (h : laidMetH P laid W) {name : String} {d : DataW Unit} (hm : (name, d) ∈ laid) (hn : d.handleName?.isNone = true) :
  ∃ g t cs fuel p, P.globalNamed name = some g ∧ (P.globals[g]?).map (·.type) = some t ∧ W.var? P name = some cs ∧ DataW.trod (fun _ => ()) P W 0 (fun _ => true) false fuel t cs.toList = some (d, p) := by
 unfold laidMetH at h
 split at h
 ·obtain ⟨ps, h, _⟩ := h
  exact laidVars_at h hm
 ·obtain ⟨⟨ps, h, _⟩, _⟩ := h
  exact laidVars_at h (List.mem_filter.2 ⟨hm, hn⟩)
theorem glb_one {P : Program} {W : World} {g : Nat} {t : TypeId} {zero : Array Value} {gv : GV}
  (h : W.ShapedOpen P) (hg : g < P.globals.size) (h0 : ((begin P (fun _ _ => 0) default).world.heap[g]?).bind Obj.row? = some (zero, t)) (hz : zero.size = 1) (hc : ∃ x, W.cell? ⟨g, 0, none⟩ = some x ∧ gv.is x ∧ x.oneCell' = true) :
  noL g = none ∧ g < W.heap.size ∧ (∀ i v, [gv][i]? = some v → ∃ x, W.cell? ⟨g, i, none⟩ = some x ∧ v.is x ∧ x.oneCell' = true) ∧ ∃ c e fr, W.heap[g]? = some (.cells c e fr) ∧ c.size = [gv].length := by
 obtain ⟨cs, hh, hs, _⟩ := h.1 g zero t hg h0
 obtain ⟨x, hx, hi, ho⟩ := hc
 refine ⟨rfl, ?_, fun i v hi' => ?_, cs, t, _, hh, by rw [hs, hz]; rfl⟩
 ·refine Nat.lt_of_not_le fun hle => ?_
  rw [Array.getElem?_eq_none hle] at hh
  cases hh
 ·cases i with
  | zero =>
   obtain rfl := Option.some.inj hi'
   exact ⟨x, hx, hi, ho⟩
  | succ i => cases hi'
theorem glb_int {P : Program} {W : World} {g : Nat} {t : TypeId} {zero : Array Value} {k : IntKind}
  (h : W.ShapedOpen P) (hg : g < P.globals.size) (h0 : ((begin P (fun _ _ => 0) default).world.heap[g]?).bind Obj.row? = some (zero, t)) (hz : zero.size = 1)
  (hb : P.buildable t = true) (hc : P.cellTypes P.depth t = some [t]) (hu : P.underlying t = some (.int k)) :
  noL g = none ∧ g < W.heap.size ∧ (∀ i v, [GV.int k][i]? = some v → ∃ x, W.cell? ⟨g, i, none⟩ = some x ∧ v.is x ∧ x.oneCell' = true) ∧ ∃ c e fr, W.heap[g]? = some (.cells c e fr) ∧ c.size = [GV.int k].length := by
 obtain ⟨m, hm⟩ := Go.Proofs.cell_of_shapedOpen_int h hg h0 hz hb hc hu
 exact glb_one h hg h0 hz ⟨_, hm, ⟨m, rfl⟩, rfl⟩
mutual
def flatD : DataW Unit → List Value
 | .lit (.int k n) => [.int k n]
 | .lit (.string s) => [.string ⟨s.toArray⟩]
 | .lit (.bool b) => [.bool b]
 | .agg l => flatDs l
 | _ => []
def flatDs : List (DataW Unit) → List Value
 | [] => []
 | d :: l => flatD d ++ flatDs l
end
def layCells (cs : Array Value) : Obj → Obj
 | .cells _ t frozen => .cells cs t frozen
 | o => o
def layVar (P : Program) (w : World) (x : String × DataW Unit) : World :=
 match P.globalNamed x.1 with
 | some g => { w with heap := w.heap.modify g (layCells (flatD x.2).toArray) }
 | none => w
noncomputable def layWorld (P : Program) (os : Os) (laid : List (String × DataW Unit)) : World := laid.foldl (layVar P) (World.holding P os ⟨#[], #[], []⟩)
end Go.Proofs.YtaglpckihegmoaaDoorAv
namespace Go.Proofs.YtaglpckihegmoaaDoorAv
open Go Go.RowKit Go.ChangeShapes Go.WideShapes
def layIf (P : Program) (u st : TypeId) (w : World) (n : String) (s : List UInt8) : World :=
 match P.globalNamed n with
 | some g => World.alloc { w with heap := w.heap.modify g (layCells #[.iface u (.pointer (some ⟨w.heap.size, 0, none⟩))]) } (.cells #[.string ⟨s.toArray⟩] st)
 | none => w
def layVar2 (P : Program) (u st : TypeId) (w : World) (x : String × DataW Unit) : World :=
 match x.2 with
 | .iface _ (.ptr (.agg [.lit (.string s)])) => layIf P u st w x.1 s
 | _ => layVar P w x
noncomputable def layWorld2 (P : Program) (os : Os) (u st : TypeId) (laid : List (String × DataW Unit)) : World := laid.foldl (layVar2 P u st) (World.holding P os ⟨#[], #[], []⟩)
theorem witness_row_shaped {H : Type} {enc : TypeId × Value → H} {C : Checked} {os : Os} {f : FuncId} {fn : Func} {s : OpenSpec} {conds : List PathCond} {apart : Bool} {laid : List (String × DataW Unit)} (modest : Bool) (w0 : World) (args : Array Value) (hos : w0.os = os)
  (hsh : (w0.forCall (fun _ _ => 0) ⟨#[], args, []⟩).Shaped C.prog)
  (hok : Input.okWideB C.prog (w0.forCall (fun _ _ => 0) ⟨#[], args, []⟩) f ⟨#[], args, []⟩ = true)
  (hrow : s.preRow enc C.prog fn conds apart laid (w0.forCall (fun _ _ => 0) ⟨#[], args, []⟩).memory args) :
  ∃ (w : World) (tape : Tape) (i : Input), w.os = os ∧ (w.forCall tape i).Shaped C.prog ∧ i.vars = [] ∧ Input.okWide C.prog (w.forCall tape i) .any w.heap.size f i ∧
   s.preRow enc C.prog fn conds apart laid (w.forCall tape i).memory i.args ∧ ({ modest := modest } : Assume).holds C.prog (lone (Frame.enter C.prog f i.args .normal) [] (w.forCall tape i)) :=
 ⟨w0, fun _ _ => 0, ⟨#[], args, []⟩, hos, hsh, (Input.okWide_of_okWideB (base := 0) hok).1, (Input.okWide_of_okWideB hok).2, hrow, by
  simp only [Assume.holds]
  exact ⟨by simp, by simp, fun _ => Modest.zero, by simp, by simp⟩⟩
theorem glb_cells {P : Program} {W : World} {name : String} {g : Nat} {cs : Array Value} {vs : List GV} (hg : P.globalNamed name = some g) (hvar : W.var? P name = some cs) (hn : cs.size = vs.length) (hne : 0 < vs.length)
  (hc : ∀ i v, vs[i]? = some v → ∃ x, W.cell? ⟨g, i, none⟩ = some x ∧ v.is x ∧ x.oneCell' = true) :
  noL g = none ∧ g < W.heap.size ∧ (∀ i v, vs[i]? = some v → ∃ x, W.cell? ⟨g, i, none⟩ = some x ∧ v.is x ∧ x.oneCell' = true) ∧ ∃ c e fr, W.heap[g]? = some (.cells c e fr) ∧ c.size = vs.length := by
 unfold World.var? at hvar
 rw [hg] at hvar
 simp only [Option.bind_some] at hvar
 split at hvar
 ·rename_i c e' fr hh
  obtain rfl := Option.some.inj hvar
  refine ⟨rfl, ?_, hc, c, e', fr, hh, hn⟩
  refine Nat.lt_of_not_le fun hle => ?_
  rw [Array.getElem?_eq_none hle] at hh
  cases hh
 ·cases hvar
theorem trod_len {H : Type} {enc : TypeId × Value → H} {P : Program} {w : World} {base : Nat} {sp : Nat → Bool} {held : Bool} {fuel : Nat} {t e : TypeId} {n : Nat} {cs : List Value} {d : DataW H} {p : List MemPlace} (ht : P.underlying t = some (.array n e))
  (h : DataW.trod enc P w base sp held fuel t cs = some (d, p)) : cs.length = P.cellsOf t := by
 cases fuel with
 | zero => simp [DataW.trod] at h
 | succ fuel =>
  simp only [DataW.trod, ht] at h
  split at h
  ·rename_i hl
   simpa using hl
  ·cases h
end Go.Proofs.YtaglpckihegmoaaDoorAv
namespace Go.Proofs.YtaglpckihegmoaaDoorAv
open Go Go.RowKit
theorem reads_at {P : Program} {W : World} {laid : List (String × DataW Unit)} (h : laidMetH P laid W) {name : String} {d : DataW Unit} (hm : (name, d) ∈ laid) (hn : d.handleName?.isNone = true) : Lib.VarReads P W name d := laidMetH_at h hm hn
abbrev laidN : List (String × DataW Unit) := YtaglpckihegmoaaDoor.Rows.linkServersRow.laid
theorem glb_ok {W : World} (hL : laidMetH Tryd.prog laidN W) (hs : W.ShapedOpen Tryd.prog) : Glb noL W := by
 have r1 : Lib.VarReads Tryd.prog W "unicode/utf8.first" Lib.firstData := reads_at hL (.tail _ (.tail _ (.tail _ (.tail _ (.head _))))) rfl
 have r2 : Lib.VarReads Tryd.prog W "unicode/utf8.acceptRanges" Lib.acceptData := reads_at hL (.head _) rfl
 have hU : Lib.Utf8Tabs 1 2 W := utf8Tabs_of_readsT (ρ := Tryd.lays196_ren) (U8Types.of196 Tryd.lays196) ⟨by kernel_rfl, by kernel_rfl, by kernel_rfl, by kernel_rfl, by kernel_rfl, by kernel_rfl, by kernel_rfl⟩ r1 r2
 have h1 : ∀ c : Fin 256, (((glbT.head?.map (·.2)).getD [])[c.val]?).map (fun v => match v with | .val (.int .u8 z) => z == (Lib.firstT c.val : Int) | _ => false) = some true := by decide +kernel
 have h2 : ∀ i : Fin 32, (((glbT.tail.head?.map (·.2)).getD [])[i.val]?).map (fun v => match v with | .val (.int .u8 z) => z == (if i.val % 2 = 0 then (Lib.accLo (i.val / 2) : Int) else (Lib.accHi (i.val / 2) : Int)) | _ => false) = some true := by decide +kernel
 have go : ∀ (g : Nat) (l : List GV) (n : Nat) (z : Int) (v : GV), W.cell? ⟨g, n, none⟩ = some (.int .u8 z) → (l[n]?).map (fun v => match v with | .val (.int .u8 y) => y == z | _ => false) = some true → l[n]? = some v → ∃ x, W.cell? ⟨g, n, none⟩ = some x ∧ v.is x ∧ x.oneCell' = true := by
  intro g l n z v hc hn hv
  rw [hv] at hn
  simp only [Option.map_some, Option.some.injEq] at hn
  split at hn
  ·rename_i y
   have : y = z := by simpa using hn
   subst this
   exact ⟨_, hc, rfl, rfl⟩
  ·cases hn
 intro g vs hm
 simp only [glbT, List.mem_cons, List.not_mem_nil, or_false, Prod.mk.injEq] at hm
 rcases hm with ⟨rfl, rfl⟩ | ⟨rfl, rfl⟩ | ⟨rfl, rfl⟩
 ·obtain ⟨g, t, cs, fuel, p, q1, q2, q3, q4⟩ := r1
  obtain rfl := Option.some.inj ((show Tryd.prog.globalNamed "unicode/utf8.first" = some 1 by kernel_rfl).symm.trans q1)
  obtain rfl := Option.some.inj ((show (Tryd.prog.globals[1]?).map (·.type) = some 96 by kernel_rfl).symm.trans q2)
  refine glb_cells q1 q3 ?_ (by decide) fun i v hi => ?_
  ·have := trod_len Tryd.underlying96 q4
   rw [Array.length_toList] at this
   exact this.trans (by kernel_rfl)
  ·have hi' : i < 256 := by
    have := (List.getElem?_eq_some_iff.1 hi).1
    simpa using this
   exact go _ _ i _ v (hU.1 i hi') (h1 ⟨i, hi'⟩) hi
 ·obtain ⟨g, t, cs, fuel, p, q1, q2, q3, q4⟩ := r2
  obtain rfl := Option.some.inj ((show Tryd.prog.globalNamed "unicode/utf8.acceptRanges" = some 2 by kernel_rfl).symm.trans q1)
  obtain rfl := Option.some.inj ((show (Tryd.prog.globals[2]?).map (·.type) = some 99 by kernel_rfl).symm.trans q2)
  refine glb_cells q1 q3 ?_ (by decide) fun i v hi => ?_
  ·have := trod_len Tryd.underlying99 q4
   rw [Array.length_toList] at this
   exact this.trans (by kernel_rfl)
  ·have hi' : i < 32 := by
    have := (List.getElem?_eq_some_iff.1 hi).1
    simpa using this
   have h3 := hU.2 (i / 2) (by omega)
   by_cases e : i % 2 = 0
   ·have h4 := h3.1
    rw [show 2 * (i / 2) = i by omega] at h4
    refine go _ _ i _ v h4 ?_ hi
    have := h2 ⟨i, hi'⟩
    simp only [e] at this
    exact this
   ·have h4 := h3.2
    rw [show 2 * (i / 2) + 1 = i by omega] at h4
    refine go _ _ i _ v h4 ?_ hi
    have := h2 ⟨i, hi'⟩
    simp only [e] at this
    exact this
 ·exact glb_int (zero := #[.int .i64 0]) (t := 3) hs (of_decide_eq_true (by kernel_rfl)) (by kernel_rfl) rfl (by kernel_rfl) (by kernel_rfl) Tryd.underlying3
end Go.Proofs.YtaglpckihegmoaaDoorAv
namespace Go.Proofs.YtaglpckihegmoaaDoorAv
open Go Go.RowKit
section
variable {P : Program} {ρ : Rho} {F : Fr} {S : XS} {t : TM} {L : GH} {w : World}
theorem relS {L0 : GH} {og : Option Nat} {e : TypeId} {sz n : Nat} {f : Nat → List XV} {rest : List XV} (hF : Fre L0 og) (hn : og = none → n = 0) (hp : pdL rest = true) :
  Rel ⟨L0, 0, []⟩ (fun i => if i = 0 then some og else none) ⟨(0, .sl 0 sz 0 n) :: xslots 1 rest, [(0, .vec e true n sz f)], 1, false, []⟩ (tm0 (hv og sz n :: toAVL rest)) (updo L0 og ⟨e, true, vecOf n sz fun i => toAVL (f i)⟩) := by
 refine ⟨fun i => ?_, fun id r hfr => ?_, fun i j g' hi hj _ _ => ?_, fun id hid => ?_, fun b r hb => ?_, fun h => (by cases h), by simp [RVL]⟩
 ·show RV _ (look ((0, .sl 0 sz 0 n) :: xslots 1 rest) i) _
  rw [look_put]
  by_cases hi : i = 0
  ·rw [if_pos hi, hi]
   cases og with
   | some g => simp only [RV]; exact .inl ⟨g, by simp, by simp [tm0, hv]⟩
   | none => simp only [RV]; exact .inr ⟨by simp, hn rfl, trivial, by simp [tm0, hv]⟩
  ·rw [if_neg hi]
   rcases look_slots 1 (pd_RVL (fun i => if i = 0 then some og else none) rest hp) i with k | k
   ·rw [if_pos (by omega)] at k
    have : tm0 (hv og sz n :: toAVL rest) i = (toAVL rest).getD (i - 1) .top := by
     obtain ⟨j, rfl⟩ : ∃ j, i = j + 1 := ⟨i - 1, by omega⟩
     simp [tm0]
    rw [this]; exact k
   ·rw [k]; simp [RV]
 ·rw [findR_put] at hfr
  by_cases hid : id = 0
  ·rw [if_pos hid] at hfr
   obtain rfl := Option.some.inj hfr
   subst hid
   cases og with
   | some g => exact .inl ⟨g, _, by simp, upd_same _ _ _, by simp only [RRow]⟩
   | none => obtain rfl := hn rfl; exact .inr ⟨by simp, e, sz, f, rfl⟩
  ·rw [if_neg hid] at hfr; simp [findR] at hfr
 ·rw [findR_put] at hi hj
  have a1 : i = 0 := by
   by_cases h : i = 0
   ·exact h
   ·rw [if_neg h] at hi; simp [findR] at hi
  have a2 : j = 0 := by
   by_cases h : j = 0
   ·exact h
   ·rw [if_neg h] at hj; simp [findR] at hj
  rw [a1, a2]
 ·simp only at hid
  rw [if_neg (by omega)]
 ·have hne : ∀ g, og = some g → b ≠ g := by
   rintro g h rfl
   have hb : L0 b = some r := hb
   rw [hF b h] at hb; cases hb
  constructor
  ·cases og with
   | none => exact hb
   | some g => show upd L0 g _ b = _; rw [upd_ne _ _ _ _ (hne g rfl)]; exact hb
  ·intro id hid
   by_cases h : id = 0
   ·rw [if_pos h]
    intro h2
    exact hne b (Option.some.inj h2) rfl
   ·rw [if_neg h]; simp
theorem sv_ok {X : Cx} (hX : X.ok P) {f0 : FuncId} {fn : Func} (hf : P.funcs[f0]? = some fn) (hb : fn.body = some (bodyOf fn)) (hr : (fn.name == "runtime.NumGoroutine") = false) {e : TypeId} {sz : Nat} {C : SvT}
  (h : ∀ n f rest cs m g, C n f rest = some (cs, m, g) → (∀ p ∈ cs, p) → Nat.ble (rest.length + 1) fn.ntmps = true ∧ pdL rest = true ∧ ∃ f', (∀ j, j < n → f j = f' j) ∧ ∃ sc, funS X fn sc e sz n f' rest m g) : ITok P f0 (itS e sz C) := by
 refine ⟨⟨fn, _, hf, hb, hr⟩, fun args S K hT F ρ t L bs hR0 ha => ?_⟩
 unfold itS at hT
 split at hT
 case h_2 => exact hT.elim
 rename_i id s n rest
 split at hT
 case h_2 => exact hT.elim
 rename_i e' n' s' f hq
 split at hT
 case h_2 => exact hT.elim
 rename_i cs m g q1 q2 q3 hC
 obtain ⟨rfl, hT⟩ := hT
 obtain ⟨hc, hK⟩ := andK_all _ _ hT
 rw [beqN, decide_eq_true_eq] at q1 q2 q3
 subst q1 q2 q3
 have hR := hR0.pl
 obtain ⟨b0, bs', rfl⟩ : ∃ b0 bs', bs = b0 :: bs' := by
  cases bs with
  | nil => simp [RVL] at ha
  | cons b l => exact ⟨b, l, rfl⟩
 simp only [RVL] at ha
 obtain ⟨ha0, ha⟩ := ha
 obtain ⟨h0, h1, f', hff, sc, h2⟩ := h _ _ _ _ _ _ hC hc
 have hbs := RVL.pd _ _ h1 ha
 subst hbs
 rw [bleN, decide_eq_true_eq] at h0
 have go : ∀ (L0 : GH) (og : Option Nat), L = updo L0 og ⟨e', true, vecOf n' s' fun i => toAVL (f i)⟩ → Fre L0 og → ρ id = some og → b0 = hv og s' n' → (og = none → n' = 0) →
   JF P f0 (b0 :: toAVL rest) L fun v L' => ∃ ρ' S' t' xv, Rel F ρ' S' t' L' ∧ RV ρ' xv v ∧ K xv S' := by
  intro L0 og hL hF hid hb0 hn
  subst hL hb0
  have hvf : vecOf n' s' (fun i => toAVL (f i)) = vecOf n' s' fun i => toAVL (f' i) := vecOf_congr fun j hj => by rw [hff j hj]
  rw [hvf] at hR ⊢
  refine (fun_ok hX hf hb (by simp only [List.length_cons, toAVL_length]; exact h0) (relS hF hn h1) h2).conv ?_
  rintro b L1 w x ⟨ρ', S', t', xv, hR', hv', hq'⟩ hrows hx
  unfold slIs at hq'
  split at hq'
  case h_2 => exact hq'.elim
  rename_i id' s'' n''
  split at hq'
  case h_2 => exact hq'.elim
  rename_i e'' ap n3 s3 f3 hf3
  obtain ⟨⟨rfl, rfl, rfl, rfl⟩, rfl, rfl, hfg⟩ := hq'
  have hvec : vecOf n3 s3 (fun j => toAVL (f3 j)) = vecOf n3 s3 fun j => toAVL (g j) := vecOf_congr fun j hj => by rw [hfg j hj]
  simp only [RV] at hv'
  rcases hv' with ⟨g1, hg1, rfl⟩ | ⟨hg1, hm0, -, rfl⟩
  ·obtain ⟨row, hL1, hrow⟩ := (hR'.rw id' _ hf3).some_g hg1
   simp only [RRow] at hrow
   rw [hvec] at hrow
   have hF1 : L0 g1 = none := by
    cases hF1 : L0 g1 with
    | none => rfl
    | some r => exact absurd hg1 ((hR'.fr g1 r hF1).2 id' (by rw [hf3]; rfl))
   have hd : ∀ b, L1 b = none → upd L0 g1 row b = none := fun b hb => by
    rw [upd_ne]
    ·exact dom_F hR' b hb
    ·rintro rfl; rw [hL1] at hb; cases hb
   refine ⟨_, updo L0 (some g1) row, VS.ext (Ext.drop w hd) _ _ hx, fun b r hb => ?_, hd, ρ.set id (some g1), _, t, .sl id s3 0 n3, Rel.renew hR hF hq hid (fun g h => by obtain rfl := Option.some.inj h; exact hF1) (fun e ap cs h => by cases h) (.inl ⟨g1, rfl, by simp only [RRow]; exact hrow⟩), ?_, hK⟩
   ·by_cases hbg : b = g1
    ·subst hbg
     have hb : upd L0 b row b = some r := hb
     rw [upd_same] at hb
     obtain rfl := Option.some.inj hb
     exact (hrows b row hL1).ext (Ext.drop w hd) rfl
    ·have hb : upd L0 g1 row b = some r := hb
     rw [upd_ne _ _ _ _ hbg] at hb
     exact (hrows b r (hR'.fr b r hb).1).ext (Ext.drop w hd) rfl
   ·simp only [RV]
    exact .inl ⟨g1, set_same _ _ _, rfl⟩
  ·subst hm0
   refine ⟨_, updo L0 none ⟨e'', true, []⟩, VS.ext (Ext.drop w (dom_F hR')) _ _ hx, rows_F hR' hrows, dom_F hR', ρ.set id none, _, t, .sl id s3 0 0, Rel.renew hR hF hq hid (fun g h => by cases h) (fun e ap cs h => by cases h) (.inr ⟨rfl, e'', s3, g, rfl⟩), ?_, hK⟩
   simp only [RV]
   exact .inr ⟨set_same _ _ _, trivial, trivial, trivial⟩
 simp only [RV] at ha0
 rcases ha0 with ⟨g0, hid, rfl⟩ | ⟨hid, hn0, -, rfl⟩
 ·obtain ⟨row, hL, hrow⟩ := (hR.rw id _ hq).some_g hid
  simp only [RRow] at hrow
  subst hrow
  have := go (del L g0) (some g0) (by
   funext b'
   simp only [updo, upd, del]
   split
   ·rename_i hb'; rw [hb', hL]
   ·rfl) (fun g' h => by obtain rfl := Option.some.inj h; simp [del]) hid (by simp [hv]) (fun h => by cases h)
  exact this
 ·exact go L none rfl (fun g' h => by cases h) hid rfl (fun _ => hn0)
theorem exvS {X : Cx} {fn : Func} {e : TypeId} {sz n : Nat} {f : Nat → List XV} {rest : List XV} {m : Nat} {g : Nat → List XV} {p : Prop} {sc : Sc} (h0 : p = funS X fn sc e sz n f rest m g) (h : p) : ∃ sc, funS X fn sc e sz n f rest m g := ⟨sc, h0 ▸ h⟩
theorem Cx.ok.setK {X : Cx} (hX : X.ok P) (b : Bool) : ({ X with K := b } : Cx).ok P := ⟨hX.U, hX.I, hX.C, hX.H, hX.N, hX.M, hX.L, hX.E⟩
theorem Cx.ok.setW {X : Cx} (hX : X.ok P) (b : Bool) : ({ X with W := b } : Cx).ok P := ⟨hX.U, hX.I, hX.C, hX.H, hX.N, hX.M, hX.L, hX.E⟩
theorem Cx.ok.setZ {X : Cx} (hX : X.ok P) (b : Bool) : ({ X with Z := b } : Cx).ok P := ⟨hX.U, hX.I, hX.C, hX.H, hX.N, hX.M, hX.L, hX.E⟩
end
end Go.Proofs.YtaglpckihegmoaaDoorAv
namespace Go.Proofs.YtaglpckihegmoaaDoorAv
open Go Go.RowKit
section
variable {P : Program} {ρ : Rho} {F : Fr} {S : XS} {t : TM} {L : GH} {w : World}
theorem JF.retell {f : FuncId} {bs bs' : List AV} {L1 : GH} {R : AV → GH → Prop} (h : JF P f bs' L1 R) (hd : ∀ b, L b = none → L1 b = none)
  (k : ∀ w xs, (∀ g r, L g = some r → RowR L w g r) → VSL L w bs xs → (∀ g r, L1 g = some r → RowR L1 w g r) ∧ VSL L1 w bs' xs) : JF P f bs L R := fun w xs hg hv hw => by
 obtain ⟨a, b⟩ := k w xs hw hv
 exact (h w xs (hg.ext (Ext.drop w hd)) b a).mono fun e w' ⟨v, x, L', he, hv, hrows, hx, hr⟩ => ⟨v, x, L', he, hv, hrows, (Ext.drop w hd).trans hx, hr⟩
theorem isTop_eq {x : XV} (h : isTop x = true) : x = .top := by
 unfold isTop at h
 split at h
 ·rfl
 ·cases h
theorem pdT_RVL (ρ : Rho) : ∀ cs : List XV, pdT cs = true → RVL ρ cs (toAVL cs)
 | [], _ => by simp [RVL, toAVL]
 | x :: l, h => by
  rw [pdT, Bool.and_eq_true, Bool.or_eq_true] at h
  simp only [toAVL, RVL]
  refine ⟨?_, pdT_RVL ρ l h.2⟩
  rcases h.1 with k | k
  ·rw [isTop_eq k]; simp [RV]
  ·exact pd_RV ρ x k
theorem RXT_VS (hR : Rel F ρ S t L) (hrows : ∀ g r, L g = some r → RowR L w g r) {L2 : GH} (hd : ∀ b, L b = none → L2 b = none) (ho : Off ρ S L2) : ∀ (ys xs : List XV) (bs : List AV) (zs : List Value), pdT ys = true → RXT S xs ys → RVL ρ xs bs → VSL L w bs zs → VSL L2 w (toAVL ys) zs
 | [], [], bs, zs, _, _, k, hz => by
  cases bs with
  | nil => cases zs with
   | nil => simp [toAVL, VSL]
   | cons _ _ => simp [VSL] at hz
  | cons _ _ => simp [RVL] at k
 | [], _ :: _, _, _, _, h, _, _ => by simp [RXT] at h
 | _ :: _, [], _, _, _, h, _, _ => by simp [RXT] at h
 | y :: ys, x :: xs, bs, zs, hp, h, k, hz => by
  cases bs with
  | nil => simp [RVL] at k
  | cons b bs => cases zs with
   | nil => simp [VSL] at hz
   | cons z zs =>
    rw [pdT, Bool.and_eq_true, Bool.or_eq_true] at hp
    simp only [RXT] at h
    simp only [RVL] at k
    simp only [VSL] at hz
    simp only [toAVL, VSL]
    refine ⟨?_, RXT_VS hR hrows hd ho ys xs bs zs hp.2 h.2 k.2 hz.2⟩
    cases e : isTop y with
    | true => rw [isTop_eq e]; simp [toAV, VS]
    | false =>
     have hy : y.pd = true := by
      rcases hp.1 with q | q
      ·rw [e] at q; cases q
      ·exact q
     have h1 := h.1
     rw [e] at h1
     exact RX_VS hR hrows hd ho y x b z hy h1 k.1 hz.1
theorem row_outT (hR : Rel F ρ S t L) (hrows : ∀ g r, L g = some r → RowR L w g r) {id g : Nat} {T : TypeId} {ap : Bool} {cells : List XV} (hg : ρ id = some (some g)) (h : rowT S id T ap cells) (hp : pdT cells = true) :
  (∀ b r, upd F.F g ⟨T, ap, toAVL cells⟩ b = some r → RowR (upd F.F g ⟨T, ap, toAVL cells⟩) w b r) ∧ (∀ b, L b = none → upd F.F g ⟨T, ap, toAVL cells⟩ b = none) ∧ Off ρ S (upd F.F g ⟨T, ap, toAVL cells⟩) ∧ F.F g = none := by
 unfold rowT at h
 split at h
 ·rename_i e ap' ds hf
  obtain ⟨⟨rfl, rfl⟩, h⟩ := h
  obtain ⟨row, hL, hrow⟩ := (hR.rw id _ hf).some_g hg
  simp only [RRow] at hrow
  obtain ⟨q1, q2, q3⟩ := hrow
  have hFg : F.F g = none := by
   cases hF : F.F g with
   | none => rfl
   | some r => exact absurd hg ((hR.fr g r hF).2 id (by rw [hf]; rfl))
  have hd : ∀ b, L b = none → upd F.F g ⟨e, ap', toAVL cells⟩ b = none := by
   intro b hb
   rw [upd_ne]
   ·exact dom_F hR b hb
   ·rintro rfl; rw [hL] at hb; cases hb
  have ho : Off ρ S (upd F.F g ⟨e, ap', toAVL cells⟩) := by
   intro id' g' e' ap2 n sz f hf' hg'
   rw [upd_ne]
   ·exact off_F hR id' g' _ _ _ _ _ hf' hg'
   ·rintro rfl
    have := hR.inj id' id _ (by rw [hf']; rfl) (by rw [hf]; rfl) hg' hg
    subst this
    rw [hf] at hf'; cases hf'
  refine ⟨fun b r hb => ?_, hd, ho, hFg⟩
  by_cases hbg : b = g
  ·subst hbg
   rw [upd_same] at hb
   obtain rfl := Option.some.inj hb
   obtain ⟨c, fr, vs, hh, ha, hfz, hle, hvs, hv, h1⟩ := (hrows b row hL).c (by unfold Row.isc; rw [q2]; trivial)
   have hv2 := RXT_VS hR hrows hd ho cells ds row.cs vs hp h q3 hv
   have hlen : (toAVL cells).length = row.cs.length := by rw [hv2.length, ← hv.length]
   refine ⟨c, fr, vs, by rw [← q1]; exact hh, fun h => ha (by rw [q2]; exact h), hfz, by rw [hlen]; exact hle, by rw [hlen]; exact hvs, hv2, h1⟩
  ·rw [upd_ne _ _ _ _ hbg] at hb
   exact (hrows b r (hR.fr b r hb).1).ext (Ext.drop w hd) rfl
 ·exact h.elim
theorem relT {g : Nat} {re : TypeId} {rap : Bool} {cells rest : List XV} (hL : L g = some ⟨re, rap, toAVL cells⟩) (hc : pdT cells = true) (hp : pdL rest = true) :
  Rel ⟨del L g, g, []⟩ (fun i => if i = 0 then some (some g) else none) ⟨(0, .ptr 0 0 0 0) :: xslots 1 rest, [(0, .one re rap cells)], 1, true, []⟩ (tm0 (.ptr g 0 :: toAVL rest)) L := by
 refine ⟨fun i => ?_, fun id r hfr => ?_, fun i j g' hi hj _ _ => ?_, fun id hid => ?_, fun b r hb => ?_, fun _ => ⟨by simp, by simp, _, _, _, rfl⟩, by simp [RVL]⟩
 ·show RV _ (look ((0, .ptr 0 0 0 0) :: xslots 1 rest) i) _
  rw [look_put]
  by_cases hi : i = 0
  ·rw [if_pos hi, hi]
   simp only [RV]
   exact ⟨g, by simp, by simp [tm0]⟩
  ·rw [if_neg hi]
   rcases look_slots 1 (pd_RVL (fun i => if i = 0 then some (some g) else none) rest hp) i with k | k
   ·rw [if_pos (by omega)] at k
    have : tm0 (.ptr g 0 :: toAVL rest) i = (toAVL rest).getD (i - 1) .top := by
     obtain ⟨j, rfl⟩ : ∃ j, i = j + 1 := ⟨i - 1, by omega⟩
     simp [tm0]
    rw [this]; exact k
   ·rw [k]; simp [RV]
 ·rw [findR_put] at hfr
  by_cases hid : id = 0
  ·rw [if_pos hid] at hfr
   obtain rfl := Option.some.inj hfr
   subst hid
   refine .inl ⟨g, _, by simp, hL, ?_⟩
   simp only [RRow]
   exact ⟨trivial, trivial, pdT_RVL _ cells hc⟩
  ·rw [if_neg hid] at hfr; simp [findR] at hfr
 ·rw [findR_put] at hi hj
  have a1 : i = 0 := by
   by_cases h : i = 0
   ·exact h
   ·rw [if_neg h] at hi; simp [findR] at hi
  have a2 : j = 0 := by
   by_cases h : j = 0
   ·exact h
   ·rw [if_neg h] at hj; simp [findR] at hj
  rw [a1, a2]
 ·simp only at hid
  rw [if_neg (by omega)]
 ·simp only [del] at hb
  split at hb
  ·cases hb
  ·rename_i hne
   refine ⟨hb, fun id hid => ?_⟩
   by_cases h : id = 0
   ·rw [if_pos h]
    intro h2
    exact hne (Option.some.inj (Option.some.inj h2)).symm
   ·rw [if_neg h]; simp
theorem tt_ok {X : Cx} (hX : X.ok P) {f0 : FuncId} {fn : Func} (hf : P.funcs[f0]? = some fn) (hb : fn.body = some (bodyOf fn)) (hr : (fn.name == "runtime.NumGoroutine") = false) {C : TT}
    (h : ∀ cells rest cs v cells', C cells rest = some (cs, v, cells') → (∀ p ∈ cs, p) → ∃ cells0 rest0, Nat.ble (rest0.length + 1) fn.ntmps = true ∧ pdT cells0 = true ∧ (∀ ρ bs, RVL ρ cells bs → ∀ L w zs, VSL L w bs zs → VSL L w (toAVL cells0) zs) ∧ pdL rest = true ∧ pdL rest0 = true ∧ (∀ L w zs, VSL L w (toAVL rest) zs → VSL L w (toAVL rest0) zs) ∧ v.pd = true ∧ pdT cells' = true ∧ ∀ e ap, ∃ sc, funT X fn sc e ap cells0 rest0 v cells') : ITok P f0 (itT C) := by
  refine ⟨⟨fn, _, hf, hb, hr⟩, fun args S K hT F ρ t L bs hR0 ha => ?_⟩
  unfold itT at hT
  split at hT
  case h_2 => exact hT.elim
  rename_i id rest
  split at hT
  case h_2 => exact hT.elim
  rename_i e ap cells hq
  split at hT
  case h_2 => exact hT.elim
  rename_i cs v cells' hC
  obtain ⟨hc, hK⟩ := andK_all _ _ hT
  have hR := hR0.pl
  obtain ⟨b0, bs', rfl⟩ : ∃ b0 bs', bs = b0 :: bs' := by
    cases bs with
    | nil => simp [RVL] at ha
    | cons b l => exact ⟨b, l, rfl⟩
  simp only [RVL] at ha
  obtain ⟨ha0, ha⟩ := ha
  simp only [RV] at ha0
  obtain ⟨g, hid, rfl⟩ := ha0
  obtain ⟨row, hL, hrow⟩ := (hR.rw id _ hq).some_g hid
  simp only [RRow] at hrow
  obtain ⟨q1, q2, q3⟩ := hrow
  obtain ⟨cells0, rest0, h0, p1, p2, p3, p4, p5, p6, p7, h6⟩ := h _ _ _ _ _ hC hc
  obtain ⟨sc, h6⟩ := h6 e ap
  have hbs := RVL.pd _ _ p3 ha
  subst hbs
  rw [bleN, decide_eq_true_eq] at h0
  have hd : ∀ b, L b = none → upd L g ⟨e, ap, toAVL cells0⟩ b = none := by
    intro b hb
    rw [upd_ne]
    · exact hb
    · rintro rfl; rw [hL] at hb; cases hb
  have hJ : JF P f0 (.ptr g 0 :: toAVL rest0) (upd L g ⟨e, ap, toAVL cells0⟩) fun v L' => ∃ ρ' S' t' xv, Rel F ρ' S' t' L' ∧ RV ρ' xv v ∧ K xv S' := by
    refine (fun_ok hX hf hb (by simp only [List.length_cons, toAVL_length]; exact h0) (relT (upd_same _ _ _) p1 p4) h6).conv ?_
    rintro b L1 w x ⟨ρ', S', t', xv, hR', hv', hq'⟩ hrows hx
    split at hq'
    · rename_i hpn
      obtain ⟨hq', hrow'⟩ := hq'
      obtain ⟨z1, -, -⟩ := hR'.pin hpn
      obtain ⟨k1, k2, k3, k4⟩ := row_outT hR' hrows z1 hrow' p7
      have e1 : upd (del (upd L g ⟨e, ap, toAVL cells0⟩) g) g ⟨e, ap, toAVL cells'⟩ = upd L g ⟨e, ap, toAVL cells'⟩ := by
        funext b'
        simp only [upd, del]
        split <;> rfl
      have k1 : ∀ b r, upd L g ⟨e, ap, toAVL cells'⟩ b = some r → RowR (upd L g ⟨e, ap, toAVL cells'⟩) w b r := by rw [← e1]; exact k1
      have k2 : ∀ b, L1 b = none → upd L g ⟨e, ap, toAVL cells'⟩ b = none := by rw [← e1]; exact k2
      have k3 : Off ρ' S' (upd L g ⟨e, ap, toAVL cells'⟩) := by rw [← e1]; exact k3
      exact ⟨toAV v, upd L g ⟨e, ap, toAVL cells'⟩, RX_VS hR' hrows k2 k3 v xv b x p6 hq' hv' hx, k1, k2, ρ, _, t, v,
        Rel.wr hR (by show (findR (plH S.h) id).isSome = true; rw [hq]; rfl) hid (r := .one e ap cells') (row := ⟨e, ap, toAVL cells'⟩) (by simp only [RRow]; exact ⟨trivial, trivial, pdT_RVL ρ _ p7⟩) (fun _ _ _ _ => ⟨_, _, _, rfl⟩), pd_RV ρ v p6, hK⟩
    · exact hq'.elim
  have hJ' : JF P f0 (.ptr g 0 :: toAVL rest) L fun v L' => ∃ ρ' S' t' xv, Rel F ρ' S' t' L' ∧ RV ρ' xv v ∧ K xv S' := by
    refine JF.retell hJ hd fun w xs hw hv => ?_
    have hx := Ext.drop w hd
    refine ⟨fun b r hb => ?_, ?_⟩
    · by_cases hbg : b = g
      · subst hbg
        rw [upd_same] at hb
        obtain rfl := Option.some.inj hb
        obtain ⟨c, fr, vs, hh, ha, hfz, hle, hvs, hv, h1⟩ := (hw b row hL).c (by unfold Row.isc; rw [q2]; trivial)
        have hv2 := VSL.ext hx _ _ (p2 _ _ q3 _ _ _ hv)
        have hlen : (toAVL cells0).length = row.cs.length := by rw [hv2.length, ← hv.length]
        exact ⟨c, fr, vs, by rw [← q1]; exact hh, fun h => ha (by rw [q2]; exact h), hfz, by rw [hlen]; exact hle, by rw [hlen]; exact hvs, hv2, h1⟩
      · rw [upd_ne _ _ _ _ hbg] at hb
        exact (hw b r hb).ext hx rfl
    · cases xs with
      | nil => simp [VSL] at hv
      | cons x xs =>
        simp only [VSL] at hv ⊢
        exact ⟨VS.ext hx _ _ hv.1, VSL.ext hx _ _ (p5 L w xs hv.2)⟩
  simpa using hJ'
theorem ct_of_nt {f : FuncId} {T : TypeId} {M : NT} (h : NTok P f T M) {C : CT} (hC : ∀ args cs v, C args = some (cs, v) → ∃ cells, M args = some (cs, cells) ∧ pdL cells = true ∧ v = .fp cells) : CTok P f C := by
 refine ⟨h.1, fun args cs v hc0 hc ρ bs hargs => ?_⟩
 obtain ⟨cells, hM, hp, rfl⟩ := hC _ _ _ hc0
 obtain ⟨ds, hd, hj⟩ := h.2 args cs cells hM hc ρ bs hargs
 have hds := RVL.pd _ _ hp hd
 subst hds
 refine ⟨.fp (toAVL cells), by simp only [RV]; exact ⟨[], by simp⟩, fun L => (hj L).conv ?_⟩
 rintro v L1 w x ⟨g, hg, rfl, rfl⟩ hrows hx
 have hdm : ∀ b, upd L g ⟨T, true, toAVL cells⟩ b = none → L b = none := by
  intro b hb
  by_cases e : b = g
  ·rw [e]; exact hg
  ·rw [upd_ne _ _ _ _ e] at hb; exact hb
 refine ⟨_, L, ?_, fun b r hb => ?_, hdm, rfl, rfl⟩
 ·simp only [VS] at hx ⊢
  obtain ⟨c, fr, vs, hh, _, _, hle, hvs, hv, h1⟩ := (hrows g _ (upd_same _ _ _)).c trivial
  refine ⟨_, vs, hx, .inr ⟨_, rfl, hg, h1, fun i v hi => ?_⟩, VSL.ext (Ext.drop w hdm) _ _ hv⟩
  rw [add_plain, Nat.zero_add]
  rw [hvs, List.getElem?_take] at hi
  split at hi
  ·simp only [World.cell?, hh]
   simpa using hi
  ·cases hi
 ·have hne : b ≠ g := by rintro rfl; rw [hg] at hb; cases hb
  exact (hrows b r (by rw [upd_ne _ _ _ _ hne]; exact hb)).ext (Ext.drop w hdm) rfl
def itNew (T : TypeId) (M : NT) : IT := fun args S K => match M args with
 | some (cs, cells) => andK cs (K (.ptr S.nx 0 0 0) { S with h := (S.nx, .one T true cells) :: S.h, nx := S.nx + 1 })
 | none => False
theorem it_of_nt {f : FuncId} {T : TypeId} {M0 M : NT} (h : NTok P f T M0) (hw : ∀ args cs cells', M args = some (cs, cells') → ∃ cells, M0 args = some (cs, cells) ∧ pdL cells = true ∧ pdT cells' = true ∧ ∀ L w zs, VSL L w (toAVL cells) zs → VSL L w (toAVL cells') zs) : ITok P f (itNew T M) := by
 refine ⟨h.1, fun args S K hT F ρ t L bs hR ha => ?_⟩
 unfold itNew at hT
 split at hT
 ·rename_i cs cells' hM
  obtain ⟨hc, hK⟩ := andK_all _ _ hT
  obtain ⟨cells, hM0, p1, p2, p3⟩ := hw _ _ _ hM
  obtain ⟨ds, hd, hj⟩ := h.2 args cs cells hM0 hc ρ bs ha
  have hds := RVL.pd _ _ p1 hd
  subst hds
  refine (hj L).conv ?_
  rintro v L1 w x ⟨g, hg, rfl, rfl⟩ hrows hx
  have hdm : ∀ b, upd L g ⟨T, true, toAVL cells⟩ b = none → upd L g ⟨T, true, toAVL cells'⟩ b = none := by
   intro b hb
   by_cases e : b = g
   ·subst e; rw [upd_same] at hb; cases hb
   ·rw [upd_ne _ _ _ _ e] at hb ⊢; exact hb
  have hext := Ext.drop w hdm
  refine ⟨.ptr g 0, upd L g ⟨T, true, toAVL cells'⟩, by simpa [VS] using hx, fun b r hb => ?_, hdm, ρ.set S.nx (some g), _, t, .ptr S.nx 0 0 0, Rel.new hR hg (row := ⟨T, true, toAVL cells'⟩) (by simp only [RRow]; exact ⟨trivial, trivial, pdT_RVL _ _ p2⟩), by simp only [RV]; exact ⟨g, set_same _ _ _, by simp⟩, hK⟩
  by_cases hbg : b = g
  ·subst hbg
   rw [upd_same] at hb
   obtain rfl := Option.some.inj hb
   obtain ⟨c, fr, vs, hh, hap, hfz, hle, hvs, hv, h1⟩ := (hrows b _ (upd_same _ _ _)).c trivial
   have hv2 := VSL.ext hext _ _ (p3 _ _ _ hv)
   have hlen : (toAVL cells').length = (toAVL cells).length := by rw [hv2.length, ← hv.length]
   exact ⟨c, fr, vs, hh, hap, hfz, by rw [hlen]; exact hle, by rw [hlen]; exact hvs, hv2, h1⟩
  ·rw [upd_ne _ _ _ _ hbg] at hb
   exact (hrows b r (by rw [upd_ne _ _ _ _ hbg]; exact hb)).ext hext rfl
 ·exact hT.elim
theorem exvT {X : Cx} {fn : Func} {cells rest : List XV} {v : XV} {cells' : List XV} {p : TypeId → Bool → Prop} {sc : TypeId → Bool → Sc} (h0 : ∀ e ap, p e ap = funT X fn (sc e ap) e ap cells rest v cells') (h : ∀ e ap, p e ap) : ∀ e ap, ∃ sc, funT X fn sc e ap cells rest v cells' := fun e ap => ⟨sc e ap, h0 e ap ▸ h e ap⟩
def DcTOk {α : Type} (d : DcT α) : Prop := (∀ a, pdT (d.enc a) = true) ∧ ∀ x cs a, d.dec x = some (cs, a) → (∀ p ∈ cs, p) → ∀ ρ bs, RVL ρ x bs → ∀ L w zs, VSL L w bs zs → VSL L w (toAVL (d.enc a)) zs
theorem TT1_ok {X : Cx} (hX : X.ok P) {f : FuncId} {fn : Func} (hf : P.funcs[f]? = some fn) (hb : fn.body = some (bodyOf fn)) (hr : (fn.name == "runtime.NumGoroutine") = false) {α β : Type} {d : DcT α} {e : Dc β} {cs : α → β → List Prop} {v : α → β → XV} {o : α → β → α}
    (hd : DcTOk d) (he : DcOk e) (hn : Nat.ble 2 fn.ntmps = true) (hp : ∀ a b, (v a b).pd = true) (h : ∀ a b, (∀ p ∈ cs a b, p) → ∀ t ap, ∃ sc, funT X fn sc t ap (d.enc a) [e.enc b] (v a b) (d.enc (o a b))) : ITok P f (itT (TT1 d e cs v o)) := tt_ok hX hf hb hr fun cells rest cs' v' o' hH hc => by
  unfold TT1 at hH
  split at hH
  · split at hH
    · rename_i x p a q b hx hy
      simp only [Option.some.injEq, Prod.mk.injEq] at hH
      obtain ⟨rfl, rfl, rfl⟩ := hH
      obtain ⟨k1, k2, k3⟩ := he _ q b hy (allL (allR hc))
      refine ⟨d.enc a, [e.enc b], hn, hd.1 a, hd.2 _ p a hx (allL hc), by simp [pdL, k1], by simp [pdL, k2], fun L w zs hz => ?_, hp a b, hd.1 _, h a b (allR (allR hc))⟩
      match zs, hz with
      | [z], hz => simp only [toAVL, VSL] at hz ⊢; exact ⟨k3 L w z hz.1, trivial⟩
      | [], hz => simp [toAVL, VSL] at hz
      | _ :: _ :: _, hz => simp [toAVL, VSL] at hz
    · cases hH
  · cases hH
theorem TT2_ok {X : Cx} (hX : X.ok P) {f : FuncId} {fn : Func} (hf : P.funcs[f]? = some fn) (hb : fn.body = some (bodyOf fn)) (hr : (fn.name == "runtime.NumGoroutine") = false) {α β γ : Type} {d : DcT α} {e : Dc β} {g : Dc γ} {cs : α → β → γ → List Prop} {v : α → β → γ → XV} {o : α → β → γ → α}
    (hd : DcTOk d) (he : DcOk e) (hg : DcOk g) (hn : Nat.ble 3 fn.ntmps = true) (hp : ∀ a b c, (v a b c).pd = true) (h : ∀ a b c, (∀ p ∈ cs a b c, p) → ∀ t ap, ∃ sc, funT X fn sc t ap (d.enc a) [e.enc b, g.enc c] (v a b c) (d.enc (o a b c))) : ITok P f (itT (TT2 d e g cs v o)) := tt_ok hX hf hb hr fun cells rest cs' v' o' hH hc => by
  unfold TT2 at hH
  split at hH
  · split at hH
    · rename_i x y p a q b r c hx hy hz
      simp only [Option.some.injEq, Prod.mk.injEq] at hH
      obtain ⟨rfl, rfl, rfl⟩ := hH
      obtain ⟨k1, k2, k3⟩ := he _ q b hy (allL (allR hc))
      obtain ⟨m1, m2, m3⟩ := hg _ r c hz (allL (allR (allR hc)))
      refine ⟨d.enc a, [e.enc b, g.enc c], hn, hd.1 a, hd.2 _ p a hx (allL hc), by simp [pdL, k1, m1], by simp [pdL, k2, m2], fun L w zs hz => ?_, hp a b c, hd.1 _, h a b c (allR (allR (allR hc)))⟩
      match zs, hz with
      | [z, z2], hz => simp only [toAVL, VSL] at hz ⊢; exact ⟨k3 L w z hz.1, m3 L w z2 hz.2.1, trivial⟩
      | [], hz => simp [toAVL, VSL] at hz
      | [_], hz => simp [toAVL, VSL] at hz
      | _ :: _ :: _ :: _, hz => simp [toAVL, VSL] at hz
    · cases hH
  · cases hH
end
end Go.Proofs.YtaglpckihegmoaaDoorAv
namespace Go.Proofs.YtaglpckihegmoaaDoorAv
open Go Go.RowKit Go.ChangeShapes Go.WideShapes
structure Opens (P : Program) (t : TypeId) (sz : Nat) (C : List XV → Prop) : Prop where
 r : ∀ {H : Type} {enc : TypeId × Value → H} {W : World} {fuel : Nat} {cs : List Value} {x : DataW H × List MemPlace},
  DataW.trod enc P W 0 (fun _ => true) true fuel t cs = some x → (∀ n ∈ x.1.weights P t, n ≤ reachBytes) →
  ∃ xs : List XV, C xs ∧ VSL noL W (toAVL xs) cs ∧ xs.length = sz ∧ cs.length = sz ∧ ∀ v ∈ cs, v.oneCell' = true
theorem Opens.mono {P : Program} {t : TypeId} {sz : Nat} {C D : List XV → Prop} (h : Opens P t sz C) (k : ∀ xs, C xs → D xs) : Opens P t sz D := ⟨fun hd hw => by
 obtain ⟨xs, a, b⟩ := h.r hd hw
 exact ⟨xs, k xs a, b⟩⟩
theorem opens_bool {P : Program} {t : TypeId} (ht : P.underlying t = some .bool) : Opens P t 1 fun xs => ∃ b, xs = [XB b] := ⟨fun hd _ => by
 obtain ⟨b, rfl, -⟩ := DataW.trod_bool ht hd
 exact ⟨[XB b], ⟨b, rfl⟩, by simp [toAVL, toAV, VSL, VS], rfl, rfl, by simp [Value.oneCell']⟩⟩
theorem opens_int {P : Program} {t : TypeId} {k : IntKind} (ht : P.underlying t = some (.int k)) : Opens P t 1 fun xs => ∃ n, xs = [.v (.p (.int k n))] ∧ (Lit.int k n).wf = true := ⟨fun hd _ => by
 obtain ⟨n, rfl, -, hw⟩ := DataW.trod_int ht hd
 exact ⟨[.v (.p (.int k n))], ⟨n, rfl, hw⟩, by simp [toAVL, toAV, VSL, VS], rfl, rfl, by simp [Value.oneCell']⟩⟩
theorem opens_string {P : Program} {t : TypeId} (ht : P.underlying t = some .string) : Opens P t 1 fun xs => ∃ s : ByteArray, xs = [XT s] ∧ s.size ≤ 140737488351232 := ⟨fun hd hw => by
 obtain ⟨s, rfl, rfl, -⟩ := DataW.trod_string ht hd
 refine ⟨[XT s], ⟨s, rfl, ?_⟩, by simp [toAVL, toAV, VSL, VS], rfl, rfl, by simp [Value.oneCell']⟩
 have := hw s.data.toList.length (by simp [DataW.weights])
 have e : s.data.toList.length = s.size := by rw [Array.length_toList]; rfl
 rw [e] at this
 exact this⟩
theorem toAVL_app : ∀ a b : List XV, toAVL (a ++ b) = toAVL a ++ toAVL b
 | [], b => rfl
 | x :: a, b => by simp only [List.cons_append, toAVL, toAVL_app a b]
theorem VSL_app {L : GH} {w : World} : ∀ {a b : List AV} {x y : List Value}, VSL L w a x → VSL L w b y → VSL L w (a ++ b) (x ++ y)
 | [], b, [], y, _, h => h
 | c :: a, b, v :: x, y, h, k => by
  simp only [VSL] at h
  simp only [List.cons_append, VSL]
  exact ⟨h.1, VSL_app h.2 k⟩
 | [], b, v :: x, y, h, _ => by simp [VSL] at h
 | c :: a, b, [], y, h, _ => by simp [VSL] at h
theorem weightsAll_mem {H : Type} {P : Program} {e : TypeId} : ∀ {l : List (DataW H)} {i : Nat} {d : DataW H} {n : Nat}, l[i]? = some d → n ∈ d.weights P e → n ∈ DataW.weightsAll P e l
 | [], i, d, n, h, _ => by simp at h
 | x :: l, 0, d, n, h, k => by
  simp only [List.getElem?_cons_zero, Option.some.injEq] at h
  subst h
  simp only [DataW.weightsAll, List.mem_append]
  exact .inl k
 | x :: l, i + 1, d, n, h, k => by
  simp only [List.getElem?_cons_succ] at h
  simp only [DataW.weightsAll, List.mem_append]
  exact .inr (weightsAll_mem h k)
inductive Pcs : List (Nat × (List XV → Prop)) → List (List XV) → Prop
 | nil : Pcs [] []
 | cons {c : Nat × (List XV → Prop)} {y : List XV} {Cs : List (Nat × (List XV → Prop))} {ys : List (List XV)} (h : c.2 y ∧ y.length = c.1) (k : Pcs Cs ys) : Pcs (c :: Cs) (y :: ys)
theorem Pcs.len {Cs : List (Nat × (List XV → Prop))} {ys : List (List XV)} (h : Pcs Cs ys) : Cs.length = ys.length := by
 induction h with
 | nil => rfl
 | cons _ _ ih => simp [ih]
theorem sum_rep (m : Nat) : ∀ i, (List.replicate i m).sum = i * m
 | 0 => by simp
 | i + 1 => by rw [List.replicate_succ, List.sum_cons, sum_rep m i, Nat.add_mul]; omega
theorem pieces {W : World} {cs : List Value} : ∀ (Cs : List (Nat × (List XV → Prop))) (o : Nat), (∀ i c, Cs[i]? = some c → ∃ xs : List XV, c.2 xs ∧ VSL noL W (toAVL xs) ((cs.drop (o + ((Cs.take i).map (·.1)).sum)).take c.1) ∧ xs.length = c.1 ∧ ∀ v ∈ (cs.drop (o + ((Cs.take i).map (·.1)).sum)).take c.1, v.oneCell' = true) →
  ∃ ys : List (List XV), Pcs Cs ys ∧ VSL noL W (toAVL ys.flatten) ((cs.drop o).take ((Cs.map (·.1)).sum)) ∧ ∀ v ∈ (cs.drop o).take ((Cs.map (·.1)).sum), v.oneCell' = true
 | [], o, _ => ⟨[], .nil, by simp [toAVL, VSL], by simp⟩
 | c :: Cs, o, h => by
  obtain ⟨x, h1, h2, h3, h4⟩ := h 0 c rfl
  simp only [List.take_zero, List.map_nil, List.sum_nil, Nat.add_zero] at h2 h4
  obtain ⟨ys, k1, k2, k3⟩ := pieces Cs (o + c.1) fun i d hd => by
   have := h (i + 1) d (by simpa using hd)
   simp only [List.take_succ_cons, List.map_cons, List.sum_cons, ← Nat.add_assoc] at this
   exact this
  have e : (cs.drop o).take (((c :: Cs).map (·.1)).sum) = (cs.drop o).take c.1 ++ (cs.drop (o + c.1)).take ((Cs.map (·.1)).sum) := by
   simp only [List.map_cons, List.sum_cons]
   rw [List.take_add, List.drop_drop]
  rw [e]
  refine ⟨x :: ys, .cons ⟨h1, h3⟩ k1, ?_, ?_⟩
  ·rw [List.flatten_cons, toAVL_app]
   exact VSL_app h2 k2
  ·intro v hv
   rcases List.mem_append.1 hv with hv | hv
   ·exact h4 v hv
   ·exact k3 v hv
theorem lens_sum : ∀ {Cs : List (Nat × (List XV → Prop))} {ys : List (List XV)}, Pcs Cs ys → ys.flatten.length = (Cs.map (·.1)).sum
 | _, _, .nil => rfl
 | _, _, .cons h k => by simp [h.2, lens_sum k]
theorem opens_struct {P : Program} {t : TypeId} {fs : Array Field} {sz : Nat} (ht : P.underlying t = some (.struct fs)) (hc : P.cellsOf t = sz) (Cs : List (Nat × (List XV → Prop))) (hn : Cs.length = fs.size) (hs : (Cs.map (·.1)).sum = sz)
  (ho : ∀ i c, Cs[i]? = some c → ∃ f, fs[i]? = some f ∧ f.offset = ((Cs.take i).map (·.1)).sum ∧ P.cellsOf f.type = c.1 ∧ Opens P f.type c.1 c.2) :
  Opens P t sz fun xs => ∃ ys : List (List XV), xs = ys.flatten ∧ Pcs Cs ys := ⟨fun {H enc W fuel cs x} hd hw => by
 obtain ⟨xs, n, rfl, rfl, hl, hx, hf⟩ := DataW.trod_struct ht hd
 rw [hc] at hl
 have key := pieces (W := W) (cs := cs) Cs 0 fun i c hi => by
  obtain ⟨f, h1, h2, h3, h4⟩ := ho i c hi
  have := hf i f h1
  have hix : i < xs.length := by
   have := (List.getElem?_eq_some_iff.1 hi).1
   omega
  rw [List.getElem?_eq_getElem hix, h3, h2] at this
  obtain ⟨ys, a, b, c', d, e⟩ := h4.r this fun m hm => hw m (by
   simp only [DataW.weights, ht]
   refine DataW.weights_mem_each (j := i) (t := f.type) (d := xs[i].1) ?_ ?_ m hm
   ·rw [List.getElem?_map, Array.getElem?_toList, h1]; rfl
   ·rw [List.getElem?_map, List.getElem?_eq_getElem hix]; rfl)
  rw [Nat.zero_add]
  exact ⟨ys, a, b, c', e⟩
 obtain ⟨ys, k1, k2, k3⟩ := key
 rw [List.drop_zero, hs, List.take_of_length_le (by omega)] at k2 k3
 exact ⟨ys.flatten, ⟨ys, rfl, k1⟩, k2, by rw [lens_sum k1, hs], hl, k3⟩⟩
theorem opens_array {P : Program} {t e : TypeId} {n m sz : Nat} {C : List XV → Prop} (ht : P.underlying t = some (.array n e)) (hc : P.cellsOf t = sz) (he : P.cellsOf e = m) (hs : n * m = sz) (ho : Opens P e m C) :
  Opens P t sz fun xs => ∃ ys : List (List XV), xs = ys.flatten ∧ ys.length = n ∧ ∀ y ∈ ys, C y ∧ y.length = m := ⟨fun {H enc W fuel cs x} hd hw => by
 obtain ⟨xs, fu, rfl, rfl, hl, hx, hf⟩ := DataW.trod_array ht hd
 rw [hc] at hl
 have hsum : ∀ i, i ≤ n → (((List.replicate n ((m, C) : Nat × (List XV → Prop))).take i).map (·.1)).sum = i * m := fun i hi => by
  rw [List.take_replicate, Nat.min_eq_left hi, List.map_replicate, sum_rep]
 have key := pieces (W := W) (cs := cs) (List.replicate n (m, C)) 0 fun i c hi => by
  have hin : i < n := by simpa using (List.getElem?_eq_some_iff.1 hi).1
  obtain rfl : (m, C) = c := by
   rw [List.getElem?_replicate, if_pos hin] at hi
   exact Option.some.inj hi
  have := hf i hin
  have hix : i < xs.length := by omega
  rw [List.getElem?_eq_getElem hix, he] at this
  obtain ⟨ys, a, b, c', d, e'⟩ := ho.r this fun k hk => hw k (by
   simp only [DataW.weights, ht]
   exact weightsAll_mem (i := i) (d := xs[i].1) (by rw [List.getElem?_map, List.getElem?_eq_getElem hix]; rfl) hk)
  rw [Nat.zero_add, hsum i (by omega)]
  exact ⟨ys, a, b, c', e'⟩
 obtain ⟨ys, k1, k2, k3⟩ := key
 have hz : ((List.replicate n ((m, C) : Nat × (List XV → Prop))).map (·.1)).sum = sz := by
  have := hsum n (Nat.le_refl _)
  rw [List.take_of_length_le (by simp)] at this
  omega
 rw [List.drop_zero, hz, List.take_of_length_le (by omega)] at k2 k3
 refine ⟨ys.flatten, ⟨ys, rfl, ?_, ?_⟩, k2, by rw [lens_sum k1, hz], hl, k3⟩
 ·have := k1.len
  simpa using this.symm
 ·have : ∀ {n : Nat} {ys : List (List XV)}, Pcs (List.replicate n (m, C)) ys → ∀ y ∈ ys, C y ∧ y.length = m := by
   intro n
   induction n with
   | zero => intro ys h; cases h; simp
   | succ n ih =>
    intro ys h
    rw [List.replicate_succ] at h
    cases h with
    | cons h1 h2 =>
     intro y hy
     rcases List.mem_cons.1 hy with rfl | hy
     ·exact h1
     ·exact ih h2 y hy
  exact this k1⟩
theorem opens_slice {P : Program} {t e : TypeId} {m b : Nat} {α : Type} (F : α → List XV) (D : α → Prop) (d0 : α) (ht : P.underlying t = some (.slice e)) (he : P.cellsOf e = m) (hm : 0 < m) (hb : P.bytesOf e = b) (ho : Opens P e m fun xs => ∃ a, xs = F a ∧ D a) :
  Opens P t 1 fun xs => ∃ q : Sq α, xs = [.fz q.n m fun i => F (q.g i)] ∧ q.n * b ≤ 140737488351232 ∧ ∀ i, i < q.n → D (q.g i) := ⟨fun {H enc W fuel cs x} hd hw => by
 rcases DataW.trod_slice ht hd with ⟨rfl, rfl⟩ | ⟨a, len, cap, elems, rest, fu, rfl, rfl, rfl, -, hle, hmx, rfl, hel, -, -⟩
 ·refine ⟨[.fz 0 m fun _ => F d0], ⟨⟨0, fun _ => d0⟩, rfl, by simp, fun i hi => by cases hi⟩, ?_, rfl, rfl, by simp [Value.oneCell']⟩
  simp only [toAVL, toAV, VSL]
  exact ⟨VS_fz0 _ _, trivial⟩
 ·have el : ∀ i, i < elems.length → ∃ (y : α) (cs : List Value), D y ∧ VSL noL W (toAVL (F y)) cs ∧ (F y).length = m ∧ cs.length = m ∧ (∀ v ∈ cs, v.oneCell' = true) ∧ ∀ j, j < m → W.cell? (a.add (i * m + j)) = cs[j]? := fun i hi => by
   have := hel i hi
   rw [List.getElem?_eq_getElem hi, he] at this
   obtain ⟨cs, h1, h2⟩ := Option.bind_eq_some_iff.1 this
   obtain ⟨-, h3, h4⟩ := World.cells?_some h1
   obtain ⟨xs, ⟨y, rfl, k1⟩, k2, k3, k4, k5⟩ := ho.r h2 fun k hk => hw k (by
    simp only [DataW.weights, ht, List.mem_cons, List.mem_append]
    exact .inr (.inl (weightsAll_mem (i := i) (d := elems[i].1) (by rw [List.getElem?_map, List.getElem?_eq_getElem hi]; rfl) hk)))
   exact ⟨y, cs, k1, k2, k3, k4, k5, fun j hj => by rw [← Addr.add_add]; exact h4 j hj⟩
  have el' : ∀ i, ∃ (y : α) (cs : List Value), i < elems.length → D y ∧ VSL noL W (toAVL (F y)) cs ∧ (F y).length = m ∧ cs.length = m ∧ (∀ v ∈ cs, v.oneCell' = true) ∧ ∀ j, j < m → W.cell? (a.add (i * m + j)) = cs[j]? := fun i => by
   by_cases hi : i < elems.length
   ·obtain ⟨xs, cs, h⟩ := el i hi
    exact ⟨xs, cs, fun _ => h⟩
   ·exact ⟨d0, [], fun h => absurd h hi⟩
  obtain ⟨g, hg⟩ := Classical.axiomOfChoice el'
  obtain ⟨c, hc⟩ := Classical.axiomOfChoice hg
  have hwt := hw ((elems.length + rest.length) * b) (by simp [DataW.weights, ht, hb])
  refine ⟨[.fz elems.length m fun i => F (g i)], ⟨⟨elems.length, g⟩, rfl, Nat.le_trans (Nat.mul_le_mul_right b (Nat.le_add_right _ _)) hwt, fun i hi => (hc i hi).1⟩, ?_, rfl, rfl, by simp [Value.oneCell']⟩
  simp only [toAVL, toAV, VSL, VS, and_true]
  have hmm : ∀ k, k < elems.length * m → k / m < elems.length ∧ k % m < m := fun k hk => ⟨by rw [Nat.div_lt_iff_lt_mul hm]; exact hk, Nat.mod_lt _ hm⟩
  refine ⟨some a, cap, (List.range (elems.length * m)).map fun k => (c (k / m)).getD (k % m) default, rfl, hle, ?_, ?_⟩
  ·refine .inr ⟨a, rfl, rfl, ?_, ?_⟩
   ·intro v hv
    obtain ⟨k, hk, rfl⟩ := List.mem_map.1 hv
    obtain ⟨h1, h2⟩ := hmm k (List.mem_range.1 hk)
    obtain ⟨-, -, -, d4, d5, -⟩ := hc _ h1
    refine d5 _ ?_
    rw [List.getD_eq_getElem?_getD, List.getElem?_eq_getElem (by omega)]
    exact List.getElem_mem _
   ·intro k v hv
    rw [List.getElem?_map] at hv
    have hk : k < elems.length * m := by
     refine Nat.lt_of_not_le fun hh => ?_
     rw [List.getElem?_eq_none (by simpa using hh)] at hv
     cases hv
    rw [List.getElem?_range hk] at hv
    obtain rfl := Option.some.inj hv
    obtain ⟨h1, h2⟩ := hmm k hk
    obtain ⟨-, -, -, d4, -, d6⟩ := hc _ h1
    have := d6 _ h2
    rw [show k / m * m + k % m = k by rw [Nat.mul_comm]; exact Nat.div_add_mod k m] at this
    rw [this]
    show _ = some ((c (k / m)).getD (k % m) default)
    rw [List.getD_eq_getElem?_getD, List.getElem?_eq_getElem (by omega)]
    rfl
  ·unfold vecOf
   have all : ∀ l : List Nat, (∀ k ∈ l, k < elems.length * m) → VSL noL W (l.map fun c => (toAVL (F (g (c / m)))).getD (c % m) .top) (l.map fun k => (c (k / m)).getD (k % m) default) := by
    intro l
    induction l with
    | nil => intro _; simp [VSL]
    | cons k l ih =>
     intro h
     simp only [List.map_cons, VSL]
     refine ⟨?_, ih fun j hj => h j (List.mem_cons_of_mem _ hj)⟩
     obtain ⟨h1, h2⟩ := hmm k (h k (List.mem_cons_self ..))
     obtain ⟨-, d2, d3, d4, -, -⟩ := hc _ h1
     have get : ∀ {xs : List AV} {ys : List Value}, VSL noL W xs ys → ∀ j, j < xs.length → VS noL W (xs.getD j .top) (ys.getD j default) := by
      intro xs
      induction xs with
      | nil => intro ys _ j hj; cases hj
      | cons x xs ih =>
       intro ys h j hj
       cases ys with
       | nil => simp [VSL] at h
       | cons y ys =>
        simp only [VSL] at h
        cases j with
        | zero => exact h.1
        | succ j => exact ih h.2 j (by simpa using hj)
     exact get d2 _ (by rw [toAVL_map, List.length_map]; omega)
   exact all _ fun k hk => List.mem_range.1 hk⟩
theorem Opens.argS {H : Type} {enc : TypeId × Value → H} {P : Program} {W : World} {t : TypeId} {C : List XV → Prop} {v : Value} {d : DataW H} {p : List MemPlace} {ts : List TypeId} {ds : List (DataW H)} {j : Nat} (hv : v.cells = #[v])
  (ho : Opens P t 1 C) (h : DataW.Trod enc P W 0 (fun _ => true) true t v d p) (hsz : (DataW.weightsEach P ts ds).all (· ≤ reachBytes) = true) (htj : ts[j]? = some t) (hdj : ds[j]? = some d) :
  ∃ x : XV, C [x] ∧ VS noL W (toAV x) v := by
 obtain ⟨fuel, hf⟩ := h
 rw [hv] at hf
 obtain ⟨xs, h1, h2, h3, -⟩ := ho.r hf fun n hn => of_decide_eq_true (List.all_eq_true.1 hsz _ (DataW.weights_mem_each htj hdj n hn))
 obtain ⟨x, rfl⟩ : ∃ x, xs = [x] := by
  match xs, h3 with
  | [x], _ => exact ⟨x, rfl⟩
 simp only [toAVL, VSL, and_true] at h2
 exact ⟨x, h1, h2⟩
end Go.Proofs.YtaglpckihegmoaaDoorAv
