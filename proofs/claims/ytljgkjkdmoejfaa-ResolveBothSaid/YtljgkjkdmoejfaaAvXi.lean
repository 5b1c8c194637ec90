/-
  SYMBOLIC RUNS over the model (own framework, part 22): guards; regions in the text's order.
-/
import Derived.Test.YtljgkjkdmoejfaaAvXh
set_option linter.unusedVariables false
set_option linter.unusedSimpArgs false
namespace Go.Proofs.YtljgkjkdmoejfaaAv
open Go Go.RowKit

theorem xdok_eq {N : Nat} {d : Option Nat} (h : xdok N d = true) : dok N d = true := by
  cases d with
  | none => rfl
  | some d => simp only [xdok, bltN, decide_eq_true_eq] at h; simpa [dok] using h

/-- What is known of tests by their keys. -/
def GI (ops : List Oper) (s : List (Nat × XV)) (G : List (Nat × Bool)) : Prop :=
  ∀ k g, fnd G k = some g → (∃ j b, k = gkey j b ∧ guardOf ops s j b = some g) ∧ ∀ i c x, look s i = .gd c (some k) x → c = g

theorem GI.nil (ops : List Oper) (s : List (Nat × XV)) : GI ops s [] := fun k g h => by simp [fnd] at h

theorem guardOf_put {ops : List Oper} {s : List (Nat × XV)} {d : Nat} {v : XV} {j : Nat} {b : Bool} (h : ∀ o, nth ops j = some o → o.dst ≠ some d) : guardOf ops ((d, v) :: s) j b = guardOf ops s j b := by
  unfold guardOf
  cases hn : nth ops j with
  | none => rfl
  | some o =>
    obtain ⟨od, op, ty, pos, af, gd⟩ := o
    cases od with
    | none => rfl
    | some d' =>
      simp only
      rw [look_put, if_neg]
      rintro rfl
      exact h _ hn rfl

theorem gkey_div (j : Nat) (b : Bool) : gkey j b / 2 = j := by
  cases b <;> simp [gkey] <;> omega
theorem gkey_inj {j j' : Nat} {b b' : Bool} (h : gkey j b = gkey j' b') : j = j' ∧ b = b' := by
  have e := gkey_div j b
  rw [h, gkey_div] at e
  subst e
  refine ⟨rfl, ?_⟩
  cases b <;> cases b' <;> simp [gkey] at h <;> rfl

theorem dropG_fnd {ops : List Oper} {d : Nat} : ∀ {G : List (Nat × Bool)} {k : Nat} {g : Bool}, fnd (dropG ops d G) k = some g → fnd G k = some g ∨ (∃ g', fnd G k = some g' ∧ False) ∨ (k, g) ∈ G
  | G, k, g, h => by
    have := fnd_mem _ _ _ h
    refine .inr (.inr ?_)
    clear h
    induction G with
    | nil => simp [dropG] at this
    | cons q G ih =>
      obtain ⟨k', g'⟩ := q
      simp only [dropG] at this
      split at this
      · cases hb : Nat.beq d _ with
        | true => rw [hb, cond_true] at this; exact List.mem_cons_of_mem _ (ih this)
        | false =>
          rw [hb, cond_false] at this
          rcases List.mem_cons.1 this with h | h
          · rw [h]; simp
          · exact List.mem_cons_of_mem _ (ih h)
      · exact List.mem_cons_of_mem _ (ih this)

/-- All that is listed of tests. -/
def GA (ops : List Oper) (s : List (Nat × XV)) (G : List (Nat × Bool)) : Prop :=
  ∀ k g, (k, g) ∈ G → (∃ j b, k = gkey j b ∧ guardOf ops s j b = some g) ∧ ∀ i c x, look s i = .gd c (some k) x → c = g
theorem GA.fnd {ops : List Oper} {s : List (Nat × XV)} {G : List (Nat × Bool)} (h : GA ops s G) {k : Nat} {g : Bool} (hf : YtljgkjkdmoejfaaAv.fnd G k = some g) : (∃ j b, k = gkey j b ∧ guardOf ops s j b = some g) ∧ ∀ i c x, look s i = .gd c (some k) x → c = g := h k g (fnd_mem _ _ _ hf)
theorem GA.nil (ops : List Oper) (s : List (Nat × XV)) : GA ops s [] := fun k g h => by cases h

theorem dropG_mem {ops : List Oper} {d : Nat} : ∀ {G : List (Nat × Bool)} {k : Nat} {g : Bool}, (k, g) ∈ dropG ops d G → (k, g) ∈ G ∧ ∃ o, nth ops (k / 2) = some o ∧ o.dst ≠ some d
  | [], k, g, h => by simp [dropG] at h
  | (k', g') :: G, k, g, h => by
    simp only [dropG] at h
    split at h
    · rename_i d' o1 o2 o3 o4 o5 hn
      rw [beqN] at h
      by_cases hd : d = d'
      · rw [decide_eq_true hd, cond_true] at h
        obtain ⟨h1, h2⟩ := dropG_mem h
        exact ⟨List.mem_cons_of_mem _ h1, h2⟩
      · rw [decide_eq_false hd, cond_false] at h
        rcases List.mem_cons.1 h with h | h
        · simp only [Prod.mk.injEq] at h
          obtain ⟨rfl, rfl⟩ := h
          exact ⟨by simp, _, hn, fun e => hd (Option.some.inj e).symm⟩
        · obtain ⟨h1, h2⟩ := dropG_mem h
          exact ⟨List.mem_cons_of_mem _ h1, h2⟩
    · obtain ⟨h1, h2⟩ := dropG_mem h
      exact ⟨List.mem_cons_of_mem _ h1, h2⟩

/-- A value put into a slot. -/
theorem GA.put {ops : List Oper} {s : List (Nat × XV)} {G : List (Nat × Bool)} (h : GA ops s G) {d : Nat} {v : XV} (hv : ∀ c k x, v = .gd c (some k) x → ∀ g, (k, g) ∈ G → c = g) : GA ops ((d, v) :: s) (dropG ops d G) := by
  intro k g hk
  obtain ⟨h1, o, h2, h3⟩ := dropG_mem hk
  obtain ⟨⟨j, b, rfl, e2⟩, e3⟩ := h k g h1
  rw [gkey_div] at h2
  refine ⟨⟨j, b, rfl, ?_⟩, fun i c x hl => ?_⟩
  · rw [guardOf_put]
    · exact e2
    · intro o' ho'
      rw [h2] at ho'
      obtain rfl := Option.some.inj ho'
      exact h3
  · rw [look_put] at hl
    split at hl
    · exact hv c _ x hl g h1
    · exact e3 i c x hl

theorem noKey_ok {k : Nat} : ∀ {s : List (Nat × XV)}, noKey k s = true → ∀ i c x, look s i ≠ .gd c (some k) x
  | [], _, i, c, x, h => by simp [look] at h
  | (d, v) :: s, hk, i, c, x, h => by
    rw [look_put] at h
    have hs : noKey k s = true := by
      unfold noKey at hk
      split at hk
      · rename_i heq; cases heq
      · rename_i heq; injection heq with h1 h2; subst h2; simp only [Bool.and_eq_true] at hk; exact hk.2
      · rename_i heq; injection heq with h1 h2; subst h2; exact hk
    split at h
    · subst h
      simp [noKey, beqN] at hk
    · exact noKey_ok hs i c x h

section
variable {P : Program} {N : Nat} {ops : Array Oper} {Q : Exit → TM → GH → Prop} {d : Option Nat} {ty : TypeId} {pos : String} {af : Array Edge} {op : Op} {ρ : Rho} {F : Fr} {S S' : XS} {t : TM} {L : GH} {v : XV} {os : List Oper}

/-- A value as an operation under a test sees it. -/
theorem st_ok {o : List Oper} {s : List (Nat × XV)} {G : List (Nat × Bool)} {key : Option Nat} {i : Nat} {b : AV} (hG : GA o s G) (hr : RV ρ (look s i) b) (hk : ∀ k g, key = some k → fnd G k = some g → g = true) (hc : ∀ p ∈ ((look s i).st G key).1, p) :
    RV ρ ((look s i).st G key).2 b := by
  cases hl : look s i with
  | gd c k x =>
    rw [hl] at hr hc
    simp only [RV] at hr
    simp only [XV.st] at hc ⊢
    cases hs : sameK G key k with
    | true =>
      simp only
      refine hr.1 ?_
      unfold sameK at hs
      split at hs
      · rename_i k1 k2
        split at hs
        · rename_i q hb hf
          rw [beqN, decide_eq_true_eq] at hb
          subst hb
          rw [(hG.fnd hf).2 i c x hl]
          exact hk _ _ rfl hf
        · cases hs
      · cases hs
    | false =>
      rw [hs] at hc
      exact hr.1 (all1 hc)
  | _ => rw [hl] at hr hc; exact hr

theorem st_okO {o : List Oper} {G : List (Nat × Bool)} {key : Option Nat} {x : Operand} (hR : Rel F ρ S t L) (hG : GA o S.s G) (hk : ∀ k g, key = some k → fnd G k = some g → g = true) (hc : ∀ p ∈ ((xev S.s x).st G key).1, p) : RV ρ ((xev S.s x).st G key).2 (ev t x) := by
  cases x with
  | tmp n => exact st_ok hG (hR.sl n) hk hc
  | const v => simp [xev, XV.st, RV, ev]
  | global g =>
    have := xev_ok hR (.global g)
    have hn : ∀ c k x, xev S.s (.global g) ≠ .gd c k x := by
      intro c k x h
      simp only [xev] at h
      split at h <;> cases h
    cases hx : xev S.s (.global g) with
    | gd c k x => exact absurd hx (hn c k x)
    | _ => rw [hx] at this; exact this
  | func f => simp [xev, XV.st, RV, ev]

theorem whose_ok {s : Nat} : ∀ {l : List Oper} {j0 j : Nat}, whose s l j0 = some j → ∃ o, nth l (j - j0) = some o ∧ o.dst = some s ∧ j0 ≤ j
  | [], j0, j, h => by simp [whose] at h
  | o :: l, j0, j, h => by
    obtain ⟨od, op, ty, pos, af, gd⟩ := o
    have step : whose s l (j0 + 1) = some j → ∃ o', nth (⟨od, op, ty, pos, af, gd⟩ :: l) (j - j0) = some o' ∧ o'.dst = some s ∧ j0 ≤ j := by
      intro h
      obtain ⟨o', h1, h2, h3⟩ := whose_ok h
      refine ⟨o', ?_, h2, by omega⟩
      rw [show j - j0 = (j - (j0 + 1)) + 1 by omega]
      exact h1
    cases od with
    | none => simp only [whose] at h; exact step h
    | some d =>
      simp only [whose, beqN] at h
      by_cases hd : d = s
      · rw [decide_eq_true hd, cond_true] at h
        obtain rfl := Option.some.inj h
        subst hd
        exact ⟨⟨some d, op, ty, pos, af, gd⟩, by simp [nth], rfl, Nat.le_refl _⟩
      · rw [decide_eq_false hd, cond_false] at h
        exact step h

theorem pick_ok {G : List (Nat × Bool)} {key : Option Nat} (hR : Rel F ρ S t L) (hG : GA ops.toList S.s G) (hk : ∀ k g, key = some k → fnd G k = some g → g = true) (c a b : Operand) (hop : op = .pick c a b) (tb : Bool) (hc : ∀ p ∈ ((xev S.s c).st G key).1, p)
    (hv : ((xev S.s c).st G key).2 = .v (.p (.bool tb))) :
    (tb = true → (∀ p ∈ ((xev S.s a).st G (pickKey ops.toList true op)).1, p) → RV ρ ((xev S.s a).st G (pickKey ops.toList true op)).2 (ev t a)) ∧
    (tb = false → (∀ p ∈ ((xev S.s b).st G (pickKey ops.toList false op)).1, p) → RV ρ ((xev S.s b).st G (pickKey ops.toList false op)).2 (ev t b)) := by
  have key2 : ∀ (bb : Bool), (bif bb then tb else !tb) = true → ∀ k g, pickKey ops.toList bb op = some k → fnd G k = some g → g = true := by
    intro bb hbb k g hp hf
    subst hop
    unfold pickKey at hp
    split at hp
    · rename_i s a1 a2 heq
      injection heq with h1 h2 h3
      subst h1 h2 h3
      split at hp
      · rename_i j hw
        obtain rfl := Option.some.inj hp
        obtain ⟨o, ho, hd, _⟩ := whose_ok hw
        rw [Nat.sub_zero] at ho
        obtain ⟨⟨j', b', hkk, hgo⟩, _⟩ := hG.fnd hf
        obtain ⟨rfl, rfl⟩ := gkey_inj hkk
        obtain ⟨od, oop, oty, opos, oaf, ogd⟩ := o
        simp only at hd
        subst hd
        simp only [guardOf, ho] at hgo
        simp only [xev] at hv hc
        cases hl : look S.s s with
        | v av =>
          rw [hl] at hv hgo
          simp only [XV.st] at hv
          injection hv with hv
          subst hv
          simp only [Option.some.injEq] at hgo
          rw [← hgo]; exact hbb
        | gd c0 k0 x0 =>
          rw [hl] at hv hgo hc
          have hx0 : x0 = .v (.p (.bool tb)) := by
            simp only [XV.st] at hv
            split at hv <;> exact hv
          subst hx0
          simp only [Option.some.injEq] at hgo
          have hc0 : c0 = true := by
            simp only [XV.st] at hc
            cases hs : sameK G key k0 with
            | false => rw [hs] at hc; exact all1 hc
            | true =>
              unfold sameK at hs
              split at hs
              · rename_i k1 k2
                split at hs
                · rename_i q hb hf2
                  rw [beqN, decide_eq_true_eq] at hb
                  subst hb
                  rw [(hG.fnd hf2).2 s c0 _ hl]
                  exact hk _ _ rfl hf2
                · cases hs
              · cases hs
          rw [← hgo, hc0, Bool.true_and]
          exact hbb
        | _ => rw [hl] at hgo; cases hgo
      · cases hp
    · cases hp
  exact ⟨fun h => st_okO hR hG (key2 true (by simpa using h)), fun h => st_okO hR hG (key2 false (by simpa using h))⟩

/-- Where a slot lies beyond the frame, nothing but what is not there lies in it. -/
theorem JO.outside {s : Nat} {c : Bool} (hs : ¬ s < N) (ht : t s = .p (.bool c)) : JO P N ops Q os t L := by
  intro L0 w0 a w he sm
  have hv := sm.tm s
  rw [ht] at hv
  simp only [VS] at hv
  have : a.tmps.getD s undef = undef := by
    rw [Array.getD_eq_getD_getElem?, Array.getElem?_eq_none (by rw [sm.size]; exact Nat.le_of_not_lt hs)]
    rfl
  rw [this] at hv
  simp [undef] at hv

theorem nth_bind {j s : Nat} {o : Oper} (hn : nth ops.toList j = some o) (hd : o.dst = some s) : (ops[j]?).bind (·.dst) = some s := by
  rw [nth_eq] at hn
  have : ops[j]? = some o := by simpa using hn
  rw [this]; exact hd

/-- An operation under a test. -/
theorem guard_ok {j : Nat} {b g : Bool} {d : Nat} (hR : ∀ o s, nth ops.toList j = some o → o.dst = some s → RV ρ (look S.s s) (t s)) (hg : guardOf ops.toList S.s j b = some g) (hd : dok N (some d) = true)
    (h1 : g = true → JO P N ops Q (⟨some d, op, ty, pos, af, none⟩ :: os) t L) (h2 : g = false → JO P N ops Q os (t.put d (.p undef)) L) : JO P N ops Q (⟨some d, op, ty, pos, af, some (j, b)⟩ :: os) t L := by
  have hdN : d < N := dok_lt hd d rfl
  unfold guardOf at hg
  split at hg
  · rename_i s o1 o2 o3 o4 o5 hn
    have hj := nth_bind hn rfl
    have hsl := hR _ s hn rfl
    by_cases hs : s < N
    · split at hg
      · rename_i c hl
        rw [hl] at hsl
        simp only [RV] at hsl
        obtain rfl := Option.some.inj hg
        cases b <;> cases c
        · exact JO.on hs hj hsl rfl (h1 rfl)
        · exact JO.off hdN hs hj hsl rfl (h2 rfl)
        · exact JO.off hdN hs hj hsl rfl (h2 rfl)
        · exact JO.on hs hj hsl rfl (h1 rfl)
      · rename_i c0 k c hl
        rw [hl] at hsl
        simp only [RV] at hsl
        obtain rfl := Option.some.inj hg
        cases c0 with
        | false => exact JO.offU hdN hs hj (hsl.2 rfl) (h2 rfl)
        | true =>
          have := hsl.1 rfl
          cases b <;> cases c
          · exact JO.on hs hj this rfl (h1 rfl)
          · exact JO.off hdN hs hj this rfl (h2 rfl)
          · exact JO.off hdN hs hj this rfl (h2 rfl)
          · exact JO.on hs hj this rfl (h1 rfl)
      · cases hg
    · -- beyond the frame
      split at hg
      · rename_i c hl
        rw [hl] at hsl
        simp only [RV] at hsl
        exact JO.outside hs hsl
      · rename_i c0 k c hl
        rw [hl] at hsl
        simp only [RV] at hsl
        obtain rfl := Option.some.inj hg
        cases c0 with
        | true => exact JO.outside hs (hsl.1 rfl)
        | false =>
          refine fun L0 w0 a w he sm => ?_
          have hv := sm.tm s
          have hw : Region.wanted ⟨some d, op, ty, pos, af, some (j, b)⟩ (yielded ops a.tmps) = false := by
            have hno : a.tmps[s]? = none := Array.getElem?_eq_none (by rw [sm.size]; exact Nat.le_of_not_lt hs)
            simp [Region.wanted, yielded, hj, hno]
          unfold wpList
          rw [if_neg (by rw [hw]; simp)]
          exact h2 rfl L0 w0 _ w he (sm.put d hdN (by simp [VS]))
      · cases hg
  · cases hg

theorem xguard_ok {G G' : List (Nat × Bool)} {j : Nat} {b g : Bool} {k : Option Nat} (hG : GA ops.toList S.s G) (h : xguard ops.toList S G j b = some (g, k, G')) :
    guardOf ops.toList S.s j b = some g ∧ GA ops.toList S.s G' ∧ ∀ k', k = some k' → ∀ g', (k', g') ∈ G' → g' = g := by
  have fin : guardOf ops.toList S.s j b = some g → GA ops.toList S.s G' → (k = some (gkey j b) ∨ k = none) → guardOf ops.toList S.s j b = some g ∧ GA ops.toList S.s G' ∧ ∀ k', k = some k' → ∀ g', (k', g') ∈ G' → g' = g := by
    intro e1 e2 hk
    refine ⟨e1, e2, fun k' h1 g' h2 => ?_⟩
    rcases hk with rfl | rfl
    · obtain rfl := Option.some.inj h1
      obtain ⟨⟨j', b', e3, e4⟩, _⟩ := e2 _ _ h2
      obtain ⟨rfl, rfl⟩ := gkey_inj e3
      rw [e1] at e4
      exact (Option.some.inj e4).symm
    · cases h1
  unfold xguard at h
  split at h
  · rename_i g0 hf
    simp only [Option.some.injEq, Prod.mk.injEq] at h
    obtain ⟨rfl, rfl, rfl⟩ := h
    obtain ⟨⟨j', b', e3, e4⟩, _⟩ := hG.fnd hf
    obtain ⟨rfl, rfl⟩ := gkey_inj e3
    exact fin e4 hG (.inl rfl)
  · split at h
    · rename_i g0 hgo
      split at h
      · rename_i hnk
        simp only [Option.some.injEq, Prod.mk.injEq] at h
        obtain ⟨rfl, rfl, rfl⟩ := h
        refine fin hgo ?_ (.inl rfl)
        intro k g hk
        rcases List.mem_cons.1 hk with hk | hk
        · simp only [Prod.mk.injEq] at hk
          obtain ⟨rfl, rfl⟩ := hk
          exact ⟨⟨j, b, rfl, hgo⟩, fun i c x hl => absurd hl (noKey_ok hnk i c x)⟩
        · exact hG k g hk
      · simp only [Option.some.injEq, Prod.mk.injEq] at h
        obtain ⟨rfl, rfl, rfl⟩ := h
        exact fin hgo hG (.inr rfl)
    · cases h

theorem RRow.rows {rows : Nat → Row} {h : List (Nat × XRow)} (hrw : ∀ id r, findR h id = some r → RR ρ L id r) (hrows : ∀ id g, ρ id = some (some g) → (findR h id).isSome = true → L g = some (rows id)) :
    ∀ id r, findR h id = some r → ∀ g, ρ id = some (some g) → RRow ρ r (rows id) := by
  intro id r hf g hg
  obtain ⟨row, h1, h2⟩ := (hrw id r hf).some_g hg
  rw [hrows id g hg (by rw [hf]; rfl)] at h1
  obtain rfl := Option.some.inj h1
  exact h2

def rowsOf (ρ : Rho) (L : GH) : Nat → Row := fun id => match ρ id with
  | some (some g) => (L g).getD ⟨0, false, []⟩
  | _ => ⟨0, false, []⟩
theorem rowsOf_ok (hR : Rel F ρ S t L) : ∀ id g, ρ id = some (some g) → (findR S.h id).isSome = true → L g = some (rowsOf ρ L id) := by
  intro id g hg hs
  cases hf : findR S.h id with
  | none => rw [hf] at hs; cases hs
  | some r =>
    obtain ⟨row, h1, _⟩ := (hR.rw id r hf).some_g hg
    simp [rowsOf, hg, h1]

theorem xop_wr {X : Cx} {h : List (Nat × XRow)} {e eT eF : Operand → List Prop × XV} {cs : List Prop} {id : Nat} {r : XRow} (hb : xop X h e eT eF op = some (cs, v, some (id, r))) : (findR h id).isSome = true ∧ id ∈ touchX e op ∧ ∀ e ap cs, findR h id = some (.one e ap cs) → ∃ e' ap' cs', r = .one e' ap' cs' := by
  cases op with
  | store T x y =>
    simp only [xop] at hb
    split at hb
    · split at hb
      · split at hb
        · rename_i cs' u hx
          simp only [Option.some.injEq, Prod.mk.injEq] at hb
          obtain ⟨-, -, rfl⟩ := hb
          unfold xstore at hx
          simp only [xforce_eq] at hx
          split at hx
          · rename_i id' sz i o heq
            split at hx
            · rename_i hf
              split at hx
              · simp only [Option.some.injEq, Prod.mk.injEq] at hx
                obtain ⟨-, rfl, rfl⟩ := hx
                exact ⟨by rw [hf]; rfl, by simp [touchX, heq, ptrId], fun _ _ _ _ => ⟨_, _, _, rfl⟩⟩
              · split at hx
                · simp only [Option.some.injEq, Prod.mk.injEq] at hx
                  obtain ⟨-, rfl, rfl⟩ := hx
                  exact ⟨by rw [hf]; rfl, by simp [touchX, heq, ptrId], fun _ _ _ _ => ⟨_, _, _, rfl⟩⟩
                · cases hx
              · cases hx
            · rename_i hf
              split at hx
              · simp only [Option.some.injEq, Prod.mk.injEq] at hx
                obtain ⟨-, rfl, -⟩ := hx
                exact ⟨by rw [hf]; rfl, by simp [touchX, heq, ptrId], fun _ _ _ h => by rw [hf] at h; cases h⟩
              · cases hx
            · rename_i hf
              split at hx
              · simp only [Option.some.injEq, Prod.mk.injEq] at hx
                obtain ⟨-, rfl, -⟩ := hx
                exact ⟨by rw [hf]; rfl, by simp [touchX, heq, ptrId], fun _ _ _ h => by rw [hf] at h; cases h⟩
              · cases hx
            · cases hx
          · cases hx
        · cases hb
      · cases hb
    · cases hb
  | pick c a b =>
    simp only [xop] at hb
    split at hb
    · split at hb <;> simp at hb
    · cases hb
  | slice T x lo hi mx =>
    cases mx with
    | some mm =>
      cases lo with
      | some _ => simp [xop] at hb
      | none =>
        cases hi with
        | none => simp [xop] at hb
        | some hh =>
          simp only [xop] at hb
          split at hb
          · split at hb <;> simp at hb
          · cases hb
    | none =>
      simp only [xop] at hb
      split at hb
      · simp at hb
      · split at hb <;> simp at hb
  | call c =>
    simp only [xop] at hb
    split at hb
    · split at hb
      · split at hb <;> simp at hb
      · cases hb
    · split at hb <;> simp at hb
    · split at hb <;> simp at hb
    · split at hb
      · split at hb <;> simp at hb
      · split at hb
        · rename_i H id' rest hH ha
          split at hb
          · rename_i el ap cells hf
            split at hb
            · simp at hb
            · simp only [Option.some.injEq, Prod.mk.injEq] at hb
              obtain ⟨-, -, rfl, rfl⟩ := hb
              refine ⟨by rw [hf]; rfl, ?_, fun _ _ _ _ => ⟨_, _, _, rfl⟩⟩
              simp only [touchX]
              cases hl : c.args.toList with
              | nil => rw [hl] at ha; cases ha
              | cons x0 xs =>
                rw [hl] at ha
                simp only [xargs, List.cons.injEq] at ha
                simp [ha.1, ptrId]
            · cases hb
          · cases hb
        · cases hb
    · cases hb
  | _ => first | (simp [xop] at hb; done) | (simp only [xop] at hb; (repeat' split at hb) <;> simp at hb)

theorem store_wr {X : Cx} {h : List (Nat × XRow)} {e eT eF : Operand → List Prop × XV} {cs : List Prop} {w : Option (Nat × XRow)} {T : TypeId} {x y : Operand} (hb : xop X h e eT eF (.store T x y) = some (cs, v, w)) : w ≠ none := by
  simp only [xop] at hb
  split at hb
  · split at hb
    · split at hb
      · simp only [Option.some.injEq, Prod.mk.injEq] at hb
        obtain ⟨-, -, rfl⟩ := hb
        simp
      · cases hb
    · cases hb
  · cases hb

theorem Rel.step {w : Option (Nat × XRow)} {W : Option (Nat × Row)} {v' : AV} (hR : Rel F ρ S t L) (d : Option Nat) (hv : RV ρ v v') (hw : WRel ρ w W) (hid : ∀ id r, w = some (id, r) → (findR S.h id).isSome = true ∧ ∀ e ap cs, findR S.h id = some (.one e ap cs) → ∃ e' ap' cs', r = .one e' ap' cs') : Rel F ρ ((S.put d v).wr w) (t.putO d v') (appW L W) := by
  have h1 := hR.put d hv
  cases w with
  | none =>
    cases W with
    | none => exact h1
    | some W => exact hw.elim
  | some w =>
    cases W with
    | none => obtain ⟨a, b⟩ := w; exact hw.elim
    | some W =>
      obtain ⟨id, r⟩ := w
      obtain ⟨g, row⟩ := W
      obtain ⟨k1, k2⟩ := hw
      have hs : (findR (S.put d v).h id).isSome = true ∧ ∀ e ap cs, findR (S.put d v).h id = some (.one e ap cs) → ∃ e' ap' cs', r = .one e' ap' cs' := by
        have := hid id r rfl
        cases d <;> exact this
      exact h1.wr hs.1 k1 k2 hs.2

theorem wr_s (S : XS) (w : Option (Nat × XRow)) : (S.wr w).s = S.s := by cases w <;> rfl
theorem put_s (S : XS) (d : Option Nat) (v : XV) : (S.put d v).s = (match d with | some d => (d, v) :: S.s | none => S.s) := by cases d <;> rfl

theorem st_gd {G : List (Nat × Bool)} {key : Option Nat} {y : XV} : ∀ c k x, (y.st G key).2 = .gd c k x → ∃ c', ∃ k', y = .gd c' k' (.gd c k x) := by
  intro c k x h
  cases y with
  | gd c' k' x' =>
    simp only [XV.st] at h
    split at h <;> exact ⟨c', k', by rw [← h]⟩
  | _ => cases h

theorem gs_in {s : List (Nat × XV)} {t : TM} {ρ : Rho} (h : ∀ i, RV ρ (look s i) (t i)) {gs : List XV} {tg : List AV} (hg : RVL ρ gs tg) : ∀ l : List (Nat × XV), RVL ρ (gsApp (gsIn s l) gs) (l.map (fun p => t p.1) ++ tg)
  | [] => hg
  | (d, v) :: l => by
    simp only [gsIn, gsApp, List.map_cons, List.cons_append, RVL]
    exact ⟨h d, gs_in h hg l⟩
theorem gs_out {t : TM} {ρ : Rho} {tg : List AV} : ∀ (l : List (Nat × XV)) (vs : List XV), RVL ρ vs (l.map (fun p => t p.1) ++ tg) → (∀ i, RV ρ (look (gsOut l vs) i) (t i)) ∧ RVL ρ (gsRest l vs) tg
  | [], vs, h => ⟨fun i => by simp [gsOut, look, RV], by simpa [gsRest] using h⟩
  | (d, u) :: l, [], h => by simp [RVL] at h
  | (d, u) :: l, v :: vs, h => by
    simp only [List.map_cons, List.cons_append, RVL] at h
    obtain ⟨h1, h2⟩ := gs_out l vs h.2
    refine ⟨fun i => ?_, h2⟩
    simp only [gsOut]
    rw [look_put]
    split
    · rename_i hi; rw [hi]; exact h.1
    · exact h1 i

/-- A call that may change what is told of memory. -/
theorem xcallL_ok {X : Cx} (hX : X.ok P) {K : XV → XS → Prop} (h : xcallL X S K op) (hR : Rel F ρ S t L) (hd : dok N d = true)
    (hK : ∀ v ρ' S' t' L', K v S' → Rel F ρ' (S'.put d v) t' L' → JO P N ops Q os t' L') : JO P N ops Q (⟨d, op, ty, pos, af, none⟩ :: os) t L := by
  unfold xcallL at h
  split at h
  · rename_i f ar at'
    split at h
    · rename_i T hT
      obtain ⟨hc, h⟩ := andK_all _ _ h
      obtain ⟨⟨fn, co, h1, h2, h3⟩, h4⟩ := hX.L f T hT
      have hargs := xargs_ok ρ (ev t) ar.toList (fun x _ hc => st_none (xev_ok hR x) hc) hc
      have hR1 : Rel ⟨F.F, F.g, (S.s.map fun p => t p.1) ++ F.tg⟩ ρ S.into t L := ⟨fun i => by simp [XS.into, look, RV], hR.rw, hR.inj, hR.nx, hR.fr, hR.pin, gs_in hR.sl hR.gh S.s⟩
      have hj := h4 _ _ _ h _ ρ t L _ hR1 hargs
      have := JO.call (P := P) (N := N) (ops := ops) (Q := Q) (ty := ty) (pos := pos) (af := af) (os := os) (t := t) (L := L) (d := d) (xs := ar.toList) (tys := at') h1 h2 h3 hd hj fun v L' ⟨ρ', S', t', xv, k1, k2, k3⟩ => by
        obtain ⟨g1, g2⟩ := gs_out (t := t) (tg := F.tg) S.s S'.gs k1.gh
        have hR2 : Rel F ρ' (S.back S') t L' := ⟨g1, k1.rw, k1.inj, k1.nx, k1.fr, k1.pin, g2⟩
        exact hK xv ρ' (S.back S') _ L' k3 (hR2.put d k2)
      simpa using this
    · exact h.elim
  · exact h.elim

theorem JO.retell {t t' : TM} {L L' : GH} (hd : ∀ b, L b = none → L' b = none)
    (hv : ∀ w, (∀ g r, L g = some r → RowR L w g r) → (∀ g r, L' g = some r → RowR L' w g r) ∧ ∀ i x, VS L w (t i) x → VS L' w (t' i) x) (h : JO P N ops Q os t' L') : JO P N ops Q os t L := by
  intro L0 w0 a w he hs
  have hx := Ext.drop w hd
  obtain ⟨h1, h2⟩ := hv w hs.rows
  exact h L0 w0 a w (he.trans hx) ⟨fun i => h2 i _ (hs.tm i), h1, hs.size, hs.df.1, hs.df.2.ext hx⟩
/-- A slice of one's own that is only read from now on. -/
theorem xfrzO_ok {d : Nat} {cs : List Prop} (h : xfrz S d = some (cs, S')) (hc : ∀ p ∈ cs, p) (hR : Rel F ρ S t L) (K : ∀ ρ' t' L', Rel F ρ' S' t' L' → JO P N ops Q os t' L') : JO P N ops Q os t L := by
  unfold xfrz at h
  split at h
  · rename_i id sz n hl
    split at h
    · rename_i e n' sz' f hq
      split at h
      · rename_i hs
        rw [beqN, decide_eq_true_eq] at hs
        subst hs
        simp only [Option.some.injEq, Prod.mk.injEq] at h
        obtain ⟨rfl, rfl⟩ := h
        have hn : n = n' := all1 hc
        subst hn
        have hsl := hR.sl d
        rw [hl] at hsl
        simp only [RV] at hsl
        have hlt : ∀ o, ρ id = some o → id < S.nx := by
          intro o ho
          rcases Nat.lt_or_ge id S.nx with h | h
          · exact h
          · rw [hR.nx id h] at ho; cases ho
        have go : ∀ (L0 : GH) (og : Option Nat) (row : Row), L = updo L0 og row → row.cs = vecOf n sz (fun i => toAVL (f i)) → Fre L0 og → ρ id = some og → t d = hv og sz n → (og = none → row.cs = [] ∧ n = 0) → JO P N ops Q os t L := by
          intro L0 og row hL hcs hF hid ht hnil
          subst hL
          refine JO.freeze d hF ht hnil (by rw [hcs, vecOf_length]) ?_
          rw [hcs]
          -- what is left is told of no block that is this one
          have fi : ∀ i, findR (dropH id (delR S.h id)) i = if i = id then none else (findR S.h i).map (dropRow id) := by
            intro i
            rw [findR_drop, findR_del]
            by_cases hi : i = id
            · rw [if_pos hi, if_pos hi]; rfl
            · rw [if_neg hi, if_neg hi]
          have old : ∀ i g row', i ≠ id → (findR S.h i).isSome = true → ρ i = some (some g) → updo L0 og row g = some row' → L0 g = some row' := by
            intro i g row' hi hs e1 e2
            cases og with
            | none => exact e2
            | some g0 =>
              have hne : g ≠ g0 := by
                rintro rfl
                exact hi (hR.inj i id _ hs (by rw [hq]; rfl) e1 hid)
              simpa [updo, upd_ne _ _ _ _ hne] using e2
          refine K (ρ.set id none) _ _ ⟨fun i => ?_, fun i q hf => ?_, fun i j g hi hj e1 e2 => ?_, fun i hi => ?_, fun b q hb => ?_, fun hp => ?_, dropC_ok hR.gh⟩
          · show RV _ (look ((d, .fz n sz f) :: dropS id S.s) i) _
            rw [look_put]
            by_cases hi : i = d
            · rw [if_pos hi, hi, TM.put_same]
              simp only [RV, toAV]
            · rw [if_neg hi, TM.put_ne _ _ _ _ hi, look_drop]
              exact RV.drop (hR.sl i)
          · simp only at hf
            rw [fi] at hf
            by_cases hi : i = id
            · rw [if_pos hi] at hf; cases hf
            · rw [if_neg hi] at hf
              cases hf2 : findR S.h i with
              | none => rw [hf2] at hf; cases hf
              | some p =>
                rw [hf2] at hf
                obtain rfl := Option.some.inj hf
                rcases hR.rw i p hf2 with ⟨g', row', h1, h2, h3⟩ | ⟨h1, e, sz, f, rfl⟩
                · exact .inl ⟨g', row', by rw [set_ne _ _ hi]; exact h1, old i g' row' hi (by rw [hf2]; rfl) h1 h2, h3.drop⟩
                · exact .inr ⟨by rw [set_ne _ _ hi]; exact h1, e, sz, f, rfl⟩
          · simp only at hi hj
            rw [fi] at hi hj
            by_cases a1 : i = id
            · rw [if_pos a1] at hi; cases hi
            · by_cases a2 : j = id
              · rw [if_pos a2] at hj; cases hj
              · rw [if_neg a1] at hi
                rw [if_neg a2] at hj
                rw [set_ne _ _ a1] at e1
                rw [set_ne _ _ a2] at e2
                exact hR.inj i j g (by simpa using hi) (by simpa using hj) e1 e2
          · simp only at hi
            have := hlt og hid
            rw [set_ne _ _ (by omega)]
            exact hR.nx i hi
          · obtain ⟨h1, h2⟩ := hR.fr b q hb
            have h3 : L0 b = some q := by
              cases og with
              | none => exact h1
              | some g0 =>
                have hne : b ≠ g0 := by rintro rfl; exact h2 id (by rw [hq]; rfl) hid
                simpa [updo, upd_ne _ _ _ _ hne] using h1
            refine ⟨h3, fun i hi => ?_⟩
            simp only at hi
            rw [fi] at hi
            by_cases a1 : i = id
            · rw [if_pos a1] at hi; cases hi
            · rw [if_neg a1] at hi
              rw [set_ne _ _ a1]
              exact h2 i (by simpa using hi)
          · obtain ⟨p1, p2, e', ap', cs', p3⟩ := hR.pin hp
            have hne : 0 ≠ id := by
              rintro rfl
              rw [hq] at p3; cases p3
            refine ⟨by rw [set_ne _ _ hne]; exact p1, p2, e', ap', dropC id cs', ?_⟩
            show findR (dropH id (delR S.h id)) 0 = _
            rw [fi, if_neg hne, p3]
            rfl
        rcases hsl with ⟨g0, hid, ht⟩ | ⟨hid, hn0, -, ht⟩
        · obtain ⟨row, hL, hrow⟩ := (hR.rw id _ hq).some_g hid
          simp only [RRow] at hrow
          refine go (del L g0) (some g0) row ?_ (by rw [hrow]) (fun g' h => by obtain rfl := Option.some.inj h; simp [del]) hid (by rw [ht]; simp [hv]) (fun h => by cases h)
          funext b'
          simp only [updo, upd, del]
          split
          · rename_i hb'; rw [hb', hL]
          · rfl
        · exact go L none ⟨0, true, vecOf n sz fun i => toAVL (f i)⟩ rfl rfl (fun g' h => by cases h) hid (by rw [ht]; rfl) (fun _ => ⟨by rw [hn0]; simp [vecOf], hn0⟩)
      · cases h
    · cases h
  · rename_i hl
    simp only [Option.some.injEq, Prod.mk.injEq] at h
    obtain ⟨-, rfl⟩ := h
    have hsl := hR.sl d
    rw [hl] at hsl
    simp only [RV] at hsl
    refine JO.retell (t' := t.putO (some d) (.fz 0 (vecOf 0 1 fun _ => toAVL [.v (.p (.string ⟨#[]⟩))]))) (L' := L) (fun b hb => hb) (fun w hw => ⟨hw, fun i x hx => ?_⟩) (K ρ _ L (Rel.put hR (some d) (by simp only [RV, toAV])))
    show VS L w ((t.put d (.fz 0 (vecOf 0 1 fun _ => toAVL [.v (.p (.string ⟨#[]⟩))]))) i) x
    unfold TM.put
    split
    · rename_i hi
      rw [hi, hsl] at hx
      simp only [VS] at hx ⊢
      subst hx
      exact ⟨none, 0, [], rfl, Nat.le_refl _, .inl rfl, by simp [vecOf, VSL]⟩
    · exact hx
  · simp only [Option.some.injEq, Prod.mk.injEq] at h
    obtain ⟨-, rfl⟩ := h
    exact K ρ t L hR
  · cases h

theorem frzArgs_ok {P : Program} {N : Nat} {ops : Array Oper} {Q : Exit → TM → GH → Prop} {os : List Oper} {F : Fr} : ∀ (l : List Operand) (S : XS) (cs : List Prop) (S' : XS) (ρ : Rho) (t : TM) (L : GH), frzArgs l S = some (cs, S') → (∀ p ∈ cs, p) → Rel F ρ S t L → (∀ ρ' t' L', Rel F ρ' S' t' L' → JO P N ops Q os t' L') → JO P N ops Q os t L
  | [], S, cs, S', ρ, t, L, h, hc, hR, K => by
    simp only [frzArgs, Option.some.injEq, Prod.mk.injEq] at h
    obtain ⟨rfl, rfl⟩ := h
    exact K ρ t L hR
  | x :: l, S, cs, S', ρ, t, L, h, hc, hR, K => by
    unfold frzArgs at h
    split at h
    · rename_i he
      cases he
    · rename_i d l' S0 he
      cases he
      split at h
      · split at h
        · rename_i cs1 S1 h1
          split at h
          · rename_i cs2 S2 h2
            simp only [Option.some.injEq, Prod.mk.injEq] at h
            obtain ⟨rfl, rfl⟩ := h
            exact xfrzO_ok h1 (allL hc) hR fun ρ' t' L' hR' => frzArgs_ok l S1 cs2 S2 ρ' t' L' h2 (allR hc) hR' K
          · cases h
        · cases h
      · exact frzArgs_ok l _ cs S' ρ t L h hc hR K
    · rename_i x' l' S0 _ he
      cases he
      exact frzArgs_ok l _ cs S' ρ t L h hc hR K
theorem callA_ok {P : Program} {N : Nat} {ops : Array Oper} {Q : Exit → TM → GH → Prop} {os : List Oper} {F : Fr} {op : Op} {S S' : XS} {ρ : Rho} {t : TM} {L : GH} {X : Cx} {cs : List Prop} (h : callA X S op = some (cs, S')) (hc : ∀ p ∈ cs, p) (hR : Rel F ρ S t L) (K : ∀ ρ' t' L', Rel F ρ' S' t' L' → JO P N ops Q os t' L') : JO P N ops Q os t L := by
  unfold callA at h
  split at h
  · split at h
    · exact frzArgs_ok _ _ _ _ _ _ _ h hc hR K
    · cases h
  · cases h

/-- A region's operations, in the text's order. -/
theorem xgo_ok {X : Cx} (hX : X.ok P) : ∀ (os : List Oper) (S : XS) (G : List (Nat × Bool)) (K : XS → Prop) (ρ : Rho) (t : TM) (L : GH), xgo X N ops.toList os S G K → Rel F ρ S t L → GA ops.toList S.s G →
    (∀ ρ' S' t' L', Rel F ρ' S' t' L' → K S' → Q .normal t' L') → JO P N ops Q os t L
  | [], S, G, K, ρ, t, L, h, hR, _, hK => JO.nil (hK ρ S t L hR h)
  | ⟨d, op, ty, pos, af, gd⟩ :: os, S, G, K, ρ, t, L, h, hR, hG, hK => by
    unfold xgo at h
    split at h
    · exact h.elim
    · rename_i hd0
      have hd := xdok_eq hd0
      simp only at h
      cases gd with
      | none =>
        simp only at h
        split at h
        · rename_i cs v w hs
          split at h
          · rename_i hwd
            obtain ⟨hc, h⟩ := andK_all _ _ h
            unfold xstep at hs
            obtain ⟨v', W, hv, hw, hj⟩ := xop_ok (P := P) (N := N) (ops := ops) (d := d) (ty := ty) (pos := pos) (af := af) (rows := rowsOf ρ L) (val := ev t) hX (fun x _ hc => st_okO hR hG (fun k g h => by cases h) hc)
              (fun c a b hop tb hc hv => pick_ok hR hG (fun k g h => by cases h) c a b hop tb hc hv) (fun id _ r hf g hg => RRow.rows (L := L) hR.rw (rowsOf_ok hR) id r hf g hg) hs hc hd (fun T x y e => by
                subst e
                cases d with
                | none => rfl
                | some d => cases hwd)
            refine hj t L (fun _ _ => rfl) (fun id _ g hg hf => rowsOf_ok hR id g hg hf) Q os ?_
            have hR2 := hR.step d hv hw (fun id r e => by subst e; exact ⟨(xop_wr hs).1, (xop_wr hs).2.2⟩)
            refine xgo_ok hX os _ _ K ρ _ _ h hR2 ?_ hK
            rw [wr_s, put_s]
            cases d with
            | none => exact hG
            | some d =>
              refine hG.put fun c k x e g hk => ?_
              subst e
              cases op <;> cases hwd
          · exact h.elim
        · split at h
          · rename_i cs v S' hn
            obtain ⟨hc, h⟩ := andK_all _ _ h
            exact xnew_ok hX hn hc hR hd fun ρ' t' L' hR' => xgo_ok hX os _ _ K ρ' t' L' h hR' (GA.nil _ _) hK
          · split at h
            · rename_i cs0 S1 hA
              split at h
              · rename_i cs v hs
                split at h
                · rename_i hwd
                  obtain ⟨hc0, h⟩ := andK_all _ _ h
                  obtain ⟨hc, h⟩ := andK_all _ _ h
                  refine callA_ok hA hc0 hR fun ρ1 t1 L1 hR1 => ?_
                  unfold xstep at hs
                  have hG1 : GA ops.toList S1.s [] := GA.nil _ _
                  obtain ⟨v', W, hv, hw, hj⟩ := xop_ok (P := P) (N := N) (ops := ops) (d := d) (ty := ty) (pos := pos) (af := af) (rows := rowsOf ρ1 L1) (val := ev t1) hX (fun x _ hc => st_okO hR1 hG1 (fun k g h => by cases h) hc)
                    (fun c a b hop tb hc hv => pick_ok hR1 hG1 (fun k g h => by cases h) c a b hop tb hc hv) (fun id _ r hf g hg => RRow.rows (L := L1) hR1.rw (rowsOf_ok hR1) id r hf g hg) hs hc hd (fun T x y e => by
                      subst e
                      cases d with
                      | none => rfl
                      | some d => cases hwd)
                  cases W with
                  | some W => exact hw.elim
                  | none =>
                    refine hj t1 L1 (fun _ _ => rfl) (fun id _ g hg hf => rowsOf_ok hR1 id g hg hf) Q os ?_
                    exact xgo_ok hX os _ _ K ρ1 _ _ h (hR1.put d hv) (GA.nil _ _) hK
                · exact h.elim
              · exact h.elim
            · exact xcallL_ok hX h hR hd fun v ρ' S' t' L' h hR' => xgo_ok hX os _ _ K ρ' t' L' h hR' (GA.nil _ _) hK
      | some gd =>
        obtain ⟨j, b⟩ := gd
        simp only at h
        split at h
        · rename_i g k G' d hg
          obtain ⟨hgo, hG', hgk⟩ := xguard_ok hG hg
          split at h
          · rename_i cs v hs
            obtain ⟨hc, h⟩ := andK_all _ _ h
            unfold xstep at hs
            have hput : ∀ b, RV ρ (.gd g k v) b → JO P N ops Q os (t.put d b) L := fun b hb =>
              xgo_ok hX os _ _ K ρ _ _ h (hR.put (some d) hb) (hG'.put fun c k' x e g' hk => by
                injection e with e1 e2 e3
                subst e1
                exact (hgk k' e2 g' hk).symm) hK
            refine guard_ok (S := S) (fun _ s _ _ => hR.sl s) hgo hd (fun hg1 => ?_) (fun hg0 => hput _ (by simp only [RV]; exact ⟨fun h => (by rw [hg0] at h; cases h), fun _ => trivial⟩))
            have hkk : ∀ k1 g1, k = some k1 → fnd G' k1 = some g1 → g1 = true := fun k1 g1 e1 e2 => by rw [hgk k1 e1 g1 (fnd_mem _ _ _ e2)]; exact hg1
            obtain ⟨v', W, hv, hw, hj⟩ := xop_ok (P := P) (N := N) (ops := ops) (d := some d) (ty := ty) (pos := pos) (af := af) (rows := rowsOf ρ L) (val := ev t) hX (fun x _ hc => st_okO hR hG' hkk hc)
              (fun c a b hop tb hc hv => pick_ok hR hG' hkk c a b hop tb hc hv) (fun id _ r hf g hg => RRow.rows (L := L) hR.rw (rowsOf_ok hR) id r hf g hg) hs (fun p hp => hc _ (List.mem_map_of_mem hp) hg1) hd (fun T x y e => by subst e; exact absurd rfl (store_wr hs))
            cases W with
            | some W => exact hw.elim
            | none => exact hj t L (fun _ _ => rfl) (fun id _ g hg hf => rowsOf_ok hR id g hg hf) Q os (hput v' (by simp only [RV]; exact ⟨fun _ => hv, fun h => (by rw [hg1] at h; cases h)⟩))
          · exact h.elim
        · exact h.elim
/-! Regions where each test parts the ways -/
/-- What is decided is so. -/
def DA (s : List (Nat × XV)) (D : DT) : Prop := ∀ d g, fnd D d = some g → look s d = match g with
  | some b => .v (.p (.bool b))
  | none => .v (.p undef)
theorem DA.nil (s : List (Nat × XV)) : DA s [] := fun d g h => by cases h
theorem fnd_dropD (d : Nat) : ∀ (D : DT) (i : Nat), fnd (dropD d D) i = if i = d then none else fnd D i
  | [], i => by simp [dropD, fnd]
  | (k, g) :: D, i => by
    simp only [dropD, beqN]
    by_cases hk : k = d
    · rw [decide_eq_true hk, cond_true, fnd_dropD d D i]
      by_cases hi : i = d
      · rw [if_pos hi, if_pos hi]
      · rw [if_neg hi, if_neg hi]
        simp only [fnd, beqN]
        rw [decide_eq_false (by omega), cond_false]
    · rw [decide_eq_false hk, cond_false]
      simp only [fnd, beqN]
      by_cases hi : i = k
      · rw [decide_eq_true hi, cond_true, cond_true, if_neg (by omega)]
      · rw [decide_eq_false hi, cond_false, cond_false, fnd_dropD d D i]
theorem DA.put {s : List (Nat × XV)} {D : DT} (h : DA s D) (d : Nat) (v : XV) : DA ((d, v) :: s) (dropD d D) := by
  intro i g hi
  rw [fnd_dropD] at hi
  by_cases hd : i = d
  · rw [if_pos hd] at hi; cases hi
  · rw [if_neg hd] at hi
    rw [look_put, if_neg hd]
    exact h i g hi
theorem DA.add {s : List (Nat × XV)} {D : DT} (h : DA s D) (d : Nat) (g : Option Bool) (v : XV) (hv : v = match g with | some b => .v (.p (.bool b)) | none => .v (.p undef)) : DA ((d, v) :: s) ((d, g) :: dropD d D) := by
  intro i g' hi
  simp only [fnd, beqN] at hi
  by_cases hd : i = d
  · rw [decide_eq_true hd, cond_true] at hi
    obtain rfl := Option.some.inj hi
    rw [look_put, if_pos hd]
    exact hv
  · rw [decide_eq_false hd, cond_false, fnd_dropD, if_neg hd] at hi
    rw [look_put, if_neg hd]
    exact h i g' hi

theorem JO.offN {j s : Nat} {b : Bool} {pos : String} (hs : s < N) (hj : (ops[j]?).bind (·.dst) = some s) (ht : t s = .p undef ∨ ∃ c, t s = .p (.bool c) ∧ (c == b) = false) (h : JO P N ops Q os t L) :
    JO P N ops Q (⟨none, op, ty, pos, af, some (j, b)⟩ :: os) t L := by
  intro L0 w0 a w he sm
  have hv := sm.tm s
  have hsz : s < a.tmps.size := by rw [sm.size]; exact hs
  have hw : Region.wanted ⟨none, op, ty, pos, af, some (j, b)⟩ (yielded ops a.tmps) = false := by
    rcases ht with ht | ⟨c, ht, hc⟩
    · rw [ht] at hv
      simp only [VS] at hv
      have h2 : a.tmps[s]? = some undef := by
        rw [Array.getD_eq_getD_getElem?, Array.getElem?_eq_getElem hsz] at hv
        rw [Array.getElem?_eq_getElem hsz]
        simpa using hv
      simp [Region.wanted, yielded, hj, h2, undef]
    · rw [ht] at hv
      simp only [VS] at hv
      have h2 : a.tmps[s]? = some (.bool c) := by
        rw [Array.getD_eq_getD_getElem?, Array.getElem?_eq_getElem hsz] at hv
        rw [Array.getElem?_eq_getElem hsz]
        simpa using hv
      simp [Region.wanted, yielded, hj, h2, hc]
  unfold wpList
  rw [if_neg (by rw [hw]; simp)]
  exact h L0 w0 a w he sm

theorem xrun1_ok {X : Cx} (hX : X.ok P) {D : DT} {K : XS → DT → Prop} (h : xrun1 X ops.toList S D ⟨d, op, ty, pos, af, none⟩ K) (hR : Rel F ρ S t L) (hD : DA S.s D) (hd : dok N d = true)
    (hK : ∀ ρ' S' t' L' D', K S' D' → Rel F ρ' S' t' L' → DA S'.s D' → JO P N ops Q os t' L') : JO P N ops Q (⟨d, op, ty, pos, af, none⟩ :: os) t L := by
  unfold xrun1 at h
  have dput : ∀ v, DA (S.put d v).s (dropDo d D) := by
    intro v
    cases d with
    | none => exact hD
    | some d => exact hD.put d v
  split at h
  · rename_i x hx
    simp only at h
    split at h
    · obtain ⟨hc, h⟩ := andK_all _ _ h
      have hv := st_none (xev_ok hR x) hc
      simp only at hx
      unfold dpick at hx
      have go : ∀ (s : Nat) (a b : Operand) (c : Bool), op = .pick (.tmp s) a b → fnd D s = some (some c) → x = (if c then a else b) → JO P N ops Q (⟨d, op, ty, pos, af, none⟩ :: os) t L := by
        intro s a b c hop hf hxx
        have hs := hR.sl s
        rw [hD s _ hf] at hs
        simp only [RV] at hs
        subst hop
        refine JO.pure (v := ev t x) ?_ hd (hK _ _ _ _ _ h (hR.put d hv) (dput _))
        have he : ev t (.tmp s) = .p (.bool c) := hs
        simp only [YtljgkjkdmoejfaaAv.fv, he]
        cases c <;> simp [hxx]
      split at hx
      · rename_i s a b
        split at hx
        · rename_i hf
          obtain rfl := Option.some.inj hx
          exact go s _ b true rfl hf rfl
        · rename_i hf
          obtain rfl := Option.some.inj hx
          exact go s a _ false rfl hf rfl
        · cases hx
      · cases hx
    · exact h.elim
  · split at h
    · rename_i cs v w hs
      split at h
      · rename_i hwd
        obtain ⟨hc, h⟩ := andK_all _ _ h
        unfold xstep at hs
        have hG := GA.nil ops.toList S.s
        obtain ⟨v', W, hv, hw, hj⟩ := xop_ok (P := P) (N := N) (ops := ops) (d := d) (ty := ty) (pos := pos) (af := af) (rows := rowsOf ρ L) (val := ev t) hX (fun x _ hc => st_okO hR hG (fun k g h => by cases h) hc)
          (fun c a b hop tb hc hv => pick_ok hR hG (fun k g h => by cases h) c a b hop tb hc hv) (fun id _ r hf g hg => RRow.rows (L := L) hR.rw (rowsOf_ok hR) id r hf g hg) hs hc hd (fun T x y e => by
            subst e
            cases d with
            | none => rfl
            | some d => cases hwd)
        refine hj t L (fun _ _ => rfl) (fun id _ g hg hf => rowsOf_ok hR id g hg hf) Q os ?_
        have hR2 := hR.step d hv hw (fun id r e => by subst e; exact ⟨(xop_wr hs).1, (xop_wr hs).2.2⟩)
        exact hK _ _ _ _ _ h hR2 (by rw [wr_s]; exact dput v)
      · exact h.elim
    · split at h
      · rename_i cs v S' hn
        obtain ⟨hc, h⟩ := andK_all _ _ h
        exact xnew_ok hX hn hc hR hd fun ρ' t' L' hR' => hK _ _ _ _ _ h hR' (DA.nil _)
      · exact xcallL_ok hX h hR hd fun v ρ' S' t' L' h hR' => hK _ _ _ _ _ h hR' (DA.nil _)

theorem xoff_ok {D : DT} {K : XS → DT → Prop} {j s : Nat} {b : Bool} (h : xoff S D ⟨d, op, ty, pos, af, some (j, b)⟩ K) (hR : Rel F ρ S t L) (hD : DA S.s D) (hd : dok N d = true) (hs : s < N) (hj : (ops[j]?).bind (·.dst) = some s)
    (ht : t s = .p undef ∨ ∃ c, t s = .p (.bool c) ∧ (c == b) = false)
    (hK : ∀ ρ' S' t' L' D', K S' D' → Rel F ρ' S' t' L' → DA S'.s D' → JO P N ops Q os t' L') : JO P N ops Q (⟨d, op, ty, pos, af, some (j, b)⟩ :: os) t L := by
  cases d with
  | none => exact JO.offN hs hj ht (hK _ _ _ _ _ h hR hD)
  | some d =>
    have hdN : d < N := dok_lt hd d rfl
    have k := hK _ _ _ _ _ h (hR.put (some d) (v := .v (.p undef)) (b := .p undef) (by simp [RV])) (hD.add d none _ rfl)
    rcases ht with ht | ⟨c, ht, hc⟩
    · exact JO.offU hdN hs hj ht k
    · exact JO.off hdN hs hj ht hc k

theorem xgf_ok {X : Cx} (hX : X.ok P) {m : Bool} : ∀ (os : List Oper) (S : XS) (D : DT) (K : XS → Prop) (ρ : Rho) (t : TM) (L : GH), xgf X N ops.toList m os S D K → Rel F ρ S t L → DA S.s D →
    (∀ ρ' S' t' L', Rel F ρ' S' t' L' → K S' → Q .normal t' L') → JO P N ops Q os t L
  | [], S, D, K, ρ, t, L, h, hR, _, hK => JO.nil (hK ρ S t L hR h)
  | ⟨d, op, ty, pos, af, gd⟩ :: os, S, D, K, ρ, t, L, h, hR, hD, hK => by
    unfold xgf at h
    split at h
    · exact h.elim
    · rename_i hd0
      have hd := xdok_eq hd0
      have next : ∀ ρ' S' t' L' D', xgf X N ops.toList m os S' D' K → Rel F ρ' S' t' L' → DA S'.s D' → JO P N ops Q os t' L' := fun ρ' S' t' L' D' h hR hD => xgf_ok hX os S' D' K ρ' t' L' h hR hD hK
      simp only at h
      cases gd with
      | none => exact xrun1_ok hX h hR hD hd next
      | some gd =>
        obtain ⟨j, b⟩ := gd
        simp only at h
        split at h
        · exact h.elim
        · rename_i s hsl
          have hj : (ops[j]?).bind (·.dst) = some s := by
            unfold slotOf at hsl
            split at hsl
            · rename_i hn; exact nth_bind hn hsl
            · cases hsl
          split at h
          · exact h.elim
          · rename_i hs0 hf
            rw [bltN, decide_eq_true_eq] at hs0
            have hs := hR.sl s
            rw [hD s _ hf] at hs
            simp only [RV] at hs
            exact xoff_ok h hR hD hd hs0 hj (.inl hs) next
          · rename_i c hs0 hf
            rw [bltN, decide_eq_true_eq] at hs0
            have hs := hR.sl s
            rw [hD s _ hf] at hs
            simp only [RV] at hs
            split at h
            · rename_i he
              exact JO.on hs0 hj hs (by revert he; cases c <;> cases b <;> decide) (xrun1_ok hX h hR hD hd next)
            · rename_i he
              exact xoff_ok h hR hD hd hs0 hj (.inr ⟨c, hs, by revert he; cases c <;> cases b <;> decide⟩) next
          · rename_i hs0 hf
            rw [bltN, decide_eq_true_eq] at hs0
            split at h
            · rename_i c hl
              have hs := hR.sl s
              rw [hl] at hs
              simp only [RV] at hs
              have put' : ∀ c', c = c' → Rel F ρ (S.put (some s) (.v (.p (.bool c')))) t L := by
                rintro c' rfl
                have := hR.put (some s) (v := .v (.p (.bool c))) (b := .p (.bool c)) (by simp [RV])
                have e : t.putO (some s) (.p (.bool c)) = t := by
                  funext i
                  simp only [TM.putO, TM.put]
                  split
                  · rename_i hi; rw [hi, hs]
                  · rfl
                rw [e] at this
                exact this
              split at h
              · split at h
                · split at h
                  · exact JO.on hs0 hj hs rfl (xrun1_ok hX h (put' _ rfl) (hD.add s (some true) _ rfl) hd next)
                  · exact xoff_ok h (put' _ rfl) (hD.add s (some true) _ rfl) hd hs0 hj (.inr ⟨_, hs, rfl⟩) next
                · split at h
                  · exact xoff_ok h (put' _ rfl) (hD.add s (some false) _ rfl) hd hs0 hj (.inr ⟨_, hs, rfl⟩) next
                  · exact JO.on hs0 hj hs rfl (xrun1_ok hX h (put' _ rfl) (hD.add s (some false) _ rfl) hd next)
              obtain ⟨h1, h2⟩ := h
              by_cases hcb : c = b
              · have hR' : Rel F ρ (S.put (some s) (.v (.p (.bool b)))) t L := by
                  have := hR.put (some s) (v := .v (.p (.bool b))) (b := .p (.bool b)) (by simp [RV])
                  have e : t.putO (some s) (.p (.bool b)) = t := by
                    funext i
                    simp only [TM.putO, TM.put]
                    split
                    · rename_i hi; rw [hi, hs, hcb]
                    · rfl
                  rw [e] at this
                  exact this
                exact JO.on hs0 hj hs (by rw [hcb]; simp) (xrun1_ok hX (h1 hcb) hR' (hD.add s (some b) _ rfl) hd next)
              · have hcb' : c = !b := by cases c <;> cases b <;> simp_all
                have hR' : Rel F ρ (S.put (some s) (.v (.p (.bool (!b))))) t L := by
                  have := hR.put (some s) (v := .v (.p (.bool (!b)))) (b := .p (.bool (!b))) (by simp [RV])
                  have e : t.putO (some s) (.p (.bool (!b))) = t := by
                    funext i
                    simp only [TM.putO, TM.put]
                    split
                    · rename_i hi; rw [hi, hs, hcb']
                    · rfl
                  rw [e] at this
                  exact this
                exact xoff_ok (h2 hcb') hR' (hD.add s (some (!b)) _ rfl) hd hs0 hj (.inr ⟨c, hs, by rw [hcb']; cases b <;> rfl⟩) next
            · exact h.elim
end
end Go.Proofs.YtljgkjkdmoejfaaAv
