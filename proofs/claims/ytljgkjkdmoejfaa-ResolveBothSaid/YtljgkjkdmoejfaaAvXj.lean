/-
  SYMBOLIC RUNS over the model (own framework, part 23): regions whose order is drawn.
-/
import Derived.Test.YtljgkjkdmoejfaaAvXi
set_option linter.unusedVariables false
set_option linter.unusedSimpArgs false
namespace Go.Proofs.YtljgkjkdmoejfaaAv
open Go Go.RowKit

section
variable {P : Program} {N : Nat} {ops : Array Oper} {Q : Exit → TM → GH → Prop} {d : Option Nat} {ty : TypeId} {pos : String} {af : Array Edge} {op : Op} {ρ : Rho} {F : Fr} {S S' : XS} {t : TM} {L : GH} {v : XV} {os : List Oper}

/-- A region whose order is drawn; blocks by any numbers. -/
theorem J.drawT {id : Nat} {l : List Oper} (tb : Nat → Nat) (ann : List (List Nat × Option Nat)) (hm : P.follows .mixedOrders = true) (hB : ordB l.toArray ann = true)
    (hN : (l.all fun o => dok N o.dst) = true) (hal : ann.length = l.length) (hinj : ∀ k x y, x ∈ (ann.getD k ([], none)).1 ∨ (ann.getD k ([], none)).2 = some x → ∀ j, (y ∈ (ann.getD j ([], none)).1 ∨ (ann.getD j ([], none)).2 = some y) → tb x = tb y → x = y)
    (hdom : ∀ k x, (ann.getD k ([], none)).2 = some x → (L (tb x)).isSome = true) (h : JD P N l.toArray tb L l ann t L (fun t' L' => Q .normal t' L')) : J P N (.region id l.toArray true) Q t L := by
  intro L0 w0 a w he hs
  obtain ⟨V, W, h1, h2, h3, h4⟩ := JD_spec (ops := l.toArray) (ann := ann) (t := t) (L := L) l 0 (fun _ => .top) (fun _ => none) (fun j => by simp) h
  simp only [Nat.zero_add] at h1 h2 h3 h4
  have hWall : ∀ k, (W k).map (·.1) = (ann.getD k ([], none)).2.map tb := by
    intro k
    by_cases hk : k < l.length
    · exact h2 k (Nat.zero_le _) hk
    · have e := (h1 k (.inr (by omega))).2
      rw [e]
      rw [List.getD_eq_getElem?_getD, List.getElem?_eq_none (by omega)]
      rfl
  refine wp_region_any hm ?_
  have hz : ∀ j, (Array.replicate l.toArray.size false).getD j false = false := by
    intro j
    rw [Array.getD_eq_getD_getElem?, Array.getElem?_replicate]
    split <;> rfl
  have e1 : refT l.toArray V t (fun j => (Array.replicate l.toArray.size false).getD j false) l.toArray.size = t := by
    have : ∀ k, refT l.toArray V t (fun j => (Array.replicate l.toArray.size false).getD j false) k = t := by
      intro k
      induction k with
      | zero => rfl
      | succ k ih => rw [refT, if_neg (by rw [hz]; simp)]; exact ih
    rw [this]
  have e2 : refL W L (fun j => (Array.replicate l.toArray.size false).getD j false) l.toArray.size = L := by
    have : ∀ k, refL W L (fun j => (Array.replicate l.toArray.size false).getD j false) k = L := by
      intro k
      induction k with
      | zero => rfl
      | succ k ih => rw [refL, if_neg (by rw [hz]; simp)]; exact ih
    rw [this]
  have hx : Ext L w L { w with drawn := w.drawn + 1 } := ⟨rfl, rfl, rfl, Nat.le_refl _, fun _ _ _ => rfl, fun _ _ h => h, fun _ c e fr h => ⟨c, e, fr, h, rfl⟩⟩
  refine draw_any (V := V) (W := W) (t := t) (L := L) hB hinj ?_ hWall ?_ (fun k o ho L' hd hr _ => h3 k o (Nat.zero_le _) ho L' hd hr) (by simpa using h4) _ _ a _ (by simp) ?_ ?_ ?_ ?_
  · intro k o d ho hd
    have hmem : o ∈ l := List.mem_of_getElem? (by simpa using ho)
    have := List.all_eq_true.1 hN o hmem
    rw [hd] at this
    simpa [dok] using this
  · intro k g r hw
    have := hWall k
    rw [hw] at this
    cases hy : (ann.getD k ([], none)).2 with
    | none => rw [hy] at this; cases this
    | some y =>
      rw [hy] at this
      have hg : g = tb y := Option.some.inj this
      rw [hg]
      exact hdom k y hy
  · intro j oj _ hl
    rw [hz j] at hl
    cases hl
  · have : left l.toArray.size (Array.replicate l.toArray.size false) ≤ (List.range l.toArray.size).length := List.length_filter_le _ _
    simpa using this
  · rw [e1, e2]; exact hs.ext hx (fun g r hg => (hs.rows g r hg).ext hx rfl)
  · rw [e2]; exact he.trans hx

theorem st_snd {G G' : List (Nat × Bool)} {k k' : Option Nat} (y : XV) : (y.st G k).2 = (y.st G' k').2 := by
  cases y with
  | gd c q x => simp only [XV.st]; split <;> split <;> rfl
  | _ => rfl
theorem touch_eq {G : List (Nat × Bool)} {k : Option Nat} (s : List (Nat × XV)) (op : Op) : touchX (fun x => (xev s x).st G k) op = touch s op := by
  cases op with
  | call c =>
    simp only [touchX, touch]
    cases c.args.toList with
    | nil => rfl
    | cons x l => simp only; rw [st_snd (G := G) (k := k) (G' := []) (k' := none)]
  | load T x => simp only [touchX, touch]; rw [st_snd (G := G) (k := k) (G' := []) (k' := none)]
  | store T x y => simp only [touchX, touch]; rw [st_snd (G := G) (k := k) (G' := []) (k' := none)]
  | slice T x _ _ _ => simp only [touchX, touch]; rw [st_snd (G := G) (k := k) (G' := []) (k' := none)]
  | convert S T x => simp only [touchX, touch]; rw [st_snd (G := G) (k := k) (G' := []) (k' := none)]
  | _ => rfl

theorem rst_ev {o : Oper} {x : Operand} (hx : x ∈ o.op.operands.toList) (t : TM) : ev (rst (o.looksAt ops) t) x = ev t x := by
  cases x with
  | tmp n =>
    simp only [ev]
    rw [rst_at, if_pos]
    simp only [Oper.looksAt, List.contains_eq_mem, List.mem_append, decide_eq_true_eq]
    exact .inl (List.mem_filterMap.2 ⟨.tmp n, hx, rfl⟩)
  | _ => rfl
theorem rst_guard {o : Oper} {j s : Nat} {b : Bool} {og : Oper} (hg : o.guard = some (j, b)) (hn : nth ops.toList j = some og) (hd : og.dst = some s) (t : TM) : (rst (o.looksAt ops) t) s = t s := by
  rw [rst_at, if_pos]
  simp only [Oper.looksAt, List.contains_eq_mem, List.mem_append, decide_eq_true_eq, hg]
  right
  rw [nth_bind hn hd]
  simp

def gOf : Option (Option Nat) → Nat
  | some (some g) => g
  | _ => 0
def bnd (ρ : Rho) : Nat → Nat
  | 0 => 1
  | n + 1 => bnd ρ n + gOf (ρ n)
theorem bnd_lt {ρ : Rho} {x g : Nat} (h : ρ x = some (some g)) : ∀ {n : Nat}, x < n → g < bnd ρ n
  | 0, hx => by omega
  | n + 1, hx => by
    simp only [bnd]
    have pos : ∀ n, 0 < bnd ρ n := by
      intro n
      induction n with
      | zero => simp [bnd]
      | succ n ih => simp only [bnd]; omega
    by_cases hn : x = n
    · subst hn
      rw [h]
      have := pos x
      simp only [gOf]
      omega
    · have := bnd_lt h (n := n) (by omega)
      omega
/-- A block's own number; of one that is not there: one that is no block's. -/
def tbOf (ρ : Rho) (n : Nat) : Nat → Nat := fun id => match ρ id with
  | some (some g) => g
  | _ => bnd ρ n + id
theorem tbOf_inj (hR : Rel F ρ S t L) {x y : Nat} (hx : (findR S.h x).isSome = true) (hy : (findR S.h y).isSome = true) (h : tbOf ρ S.nx x = tbOf ρ S.nx y) : x = y := by
  have dom : ∀ z, (findR S.h z).isSome = true → z < S.nx := by
    intro z hz
    rcases Nat.lt_or_ge z S.nx with hl | hl
    · exact hl
    · cases hf : findR S.h z with
      | none => rw [hf] at hz; cases hz
      | some r =>
        rcases hR.rw z r hf with ⟨g, row, h1, _⟩ | ⟨h1, _⟩ <;> rw [hR.nx z hl] at h1 <;> cases h1
  have hxn := dom x hx
  have hyn := dom y hy
  unfold tbOf at h
  split at h
  · rename_i g hg
    split at h
    · rename_i g' hg'
      subst h
      exact hR.inj x y _ hx hy hg hg'
    · have := bnd_lt hg hxn
      omega
  · split at h
    · rename_i g' hg'
      have := bnd_lt hg' hyn
      omega
    · omega
/-- An annotation names blocks that are told of. -/
def annOk (ρ : Rho) (h : List (Nat × XRow)) (a : List Nat × Option Nat) : Prop :=
  (∀ x, x ∈ a.1 ∨ a.2 = some x → (findR h x).isSome = true) ∧ ∀ x, a.2 = some x → ∃ g, ρ x = some (some g)

theorem wr_dom (S : XS) (w : Option (Nat × XRow)) (hw : ∀ id r, w = some (id, r) → (findR S.h id).isSome = true) (x : Nat) : (findR (S.wr w).h x).isSome = (findR S.h x).isSome := by
  cases w with
  | none => rfl
  | some w =>
    obtain ⟨id, r⟩ := w
    simp only [XS.wr]
    rw [findR_put, findR_del]
    by_cases hx : x = id
    · rw [if_pos hx, hx, hw id r rfl]; rfl
    · rw [if_neg hx, if_neg hx]
theorem put_h (S : XS) (d : Option Nat) (v : XV) : (S.put d v).h = S.h := by cases d <;> rfl

theorem thereB_mem {h : List (Nat × XRow)} : ∀ {l : List Nat} {x : Nat}, x ∈ thereB h l ↔ x ∈ l ∧ (findR h x).isSome = true
  | [], x => by simp [thereB]
  | id :: l, x => by
    simp only [thereB]
    split
    · rename_i r hr
      rw [List.mem_cons, thereB_mem, List.mem_cons]
      constructor
      · rintro (rfl | ⟨h1, h2⟩)
        · exact ⟨.inl rfl, by rw [hr]; rfl⟩
        · exact ⟨.inr h1, h2⟩
      · rintro ⟨rfl | h1, h2⟩
        · exact .inl rfl
        · exact .inr ⟨h1, h2⟩
    · rename_i hr
      rw [thereB_mem, List.mem_cons]
      constructor
      · rintro ⟨h1, h2⟩; exact ⟨.inr h1, h2⟩
      · rintro ⟨rfl | h1, h2⟩
        · rw [hr] at h2; cases h2
        · exact ⟨h1, h2⟩
theorem xdr_ok {X : Cx} (hX : X.ok P) (n : Nat) : ∀ (os : List Oper) (S : XS) (G : List (Nat × Bool)) (acc : List (List Nat × Option Nat)) (K : XS → List (List Nat × Option Nat) → Prop) (t : TM) (L : GH), xdr X N ops.toList os S G acc K → Rel F ρ S t L → GA ops.toList S.s G →
    ∃ ann S' t' L', ann.length = os.length ∧ JN P N ops (tbOf ρ n) os ann t L (fun t2 L2 => t2 = t' ∧ L2 = L') ∧ Rel F ρ S' t' L' ∧ K S' (ann.reverse ++ acc) ∧ (∀ a ∈ ann, annOk ρ S.h a) ∧ (os.all fun o => dok N o.dst) = true
  | [], S, G, acc, K, t, L, h, hR, _ => ⟨[], S, t, L, rfl, ⟨rfl, rfl⟩, hR, h, by simp, rfl⟩
  | ⟨d, op, ty, pos, af, gd⟩ :: os, S, G, acc, K, t, L, h, hR, hG => by
    unfold xdr at h
    split at h
    · exact h.elim
    · rename_i hd0
      have hd := xdok_eq hd0
      simp only at h
      have tbg : ∀ id g, ρ id = some (some g) → tbOf ρ n id = g := fun id g hg => by simp [tbOf, hg]
      have annT : ∀ {X : Cx} {G : List (Nat × Bool)} {k : Option Nat} {eT eF : Operand → List Prop × XV} {cs : List Prop} {v : XV} {w : Option (Nat × XRow)} {W : Option (Nat × Row)}, xop X S.h (fun x => (xev S.s x).st G k) eT eF op = some (cs, v, w) → WRel ρ w W →
          annOk ρ S.h (thereB S.h (touch S.s op), w.map (·.1)) := by
        intro X G k eT eF cs v w W hs hw
        refine ⟨fun x hx => ?_, fun x hx => ?_⟩
        · rcases hx with hx | hx
          · exact (thereB_mem.1 hx).2
          · cases w with
            | none => cases hx
            | some w =>
              obtain ⟨id, r⟩ := w
              obtain rfl := Option.some.inj hx
              exact (xop_wr hs).1
        · cases w with
          | none => cases hx
          | some w =>
            cases W with
            | none => obtain ⟨a, b⟩ := w; exact hw.elim
            | some W =>
              obtain ⟨id, r⟩ := w
              obtain ⟨g, row⟩ := W
              obtain rfl := Option.some.inj hx
              exact ⟨g, hw.1⟩
      have wtb : ∀ {w : Option (Nat × XRow)} {W : Option (Nat × Row)}, WRel ρ w W → W.map (·.1) = (w.map (·.1)).map (tbOf ρ n) := by
        intro w W hw
        cases w with
        | none => cases W with
          | none => rfl
          | some W => exact hw.elim
        | some w => cases W with
          | none => obtain ⟨a, b⟩ := w; exact hw.elim
          | some W =>
            obtain ⟨id, r⟩ := w
            obtain ⟨g, row⟩ := W
            simp only [Option.map_some]
            rw [tbg id g hw.1]
      cases gd with
      | none =>
        simp only at h
        split at h
        · rename_i cs v w hs
          split at h
          · rename_i hwd
            obtain ⟨hc, h⟩ := andK_all _ _ h
            unfold xstep at hs
            obtain ⟨v', W, hv, hw, hj⟩ := xop_ok (P := P) (N := N) (ops := ops) (d := d) (ty := ty) (pos := pos) (af := af) (rows := rowsOf ρ L) (val := ev t) hX (fun x _ hc => st_okO hR hG (fun k g h => by cases h) hc)
              (fun c a b hop tb hc hv => pick_ok hR hG (fun k g h => by cases h) c a b hop tb hc hv) (fun id _ r hf g hg => RRow.rows (L := L) hR.rw (rowsOf_ok hR) id r hf g hg) hs hc hd (fun T x y e => by
                subst e
                cases d with
                | none => rfl
                | some d => cases hwd)
            have hid : ∀ id r, w = some (id, r) → (findR S.h id).isSome = true ∧ ∀ e ap cs, findR S.h id = some (.one e ap cs) → ∃ e' ap' cs', r = .one e' ap' cs' := fun id r e => by subst e; exact ⟨(xop_wr hs).1, (xop_wr hs).2.2⟩
            have hR2 := hR.step d hv hw hid
            obtain ⟨ann, S', t', L', i1, i2, i3, i4, i5, i6⟩ := xdr_ok hX n os _ _ _ K _ _ h hR2 (by
              rw [wr_s, put_s]
              cases d with
              | none => exact hG
              | some d =>
                refine hG.put fun c k x e g hk => ?_
                subst e
                cases op <;> cases hwd)
            refine ⟨(thereB S.h (touch S.s op), w.map (fun p : Nat × XRow => p.1)) :: ann, S', t', L', by simp [i1], ⟨v', W, wtb hw, fun L1 hag => ?_, i2⟩, i3, by simpa using i4, fun a ha => ?_, by simp [hd, i6]⟩
            · intro Q os' K'
              refine hj _ L1 (fun x hx => rst_ev (o := ⟨d, op, ty, pos, af, none⟩) hx t) (fun id hid2 g hg hf => ?_) Q os' K'
              have h3 := hag id (by simp only [List.headD_cons]; rw [touch_eq] at hid2; exact thereB_mem.2 ⟨hid2, hf⟩) (by rw [tbg id g hg, rowsOf_ok hR id g hg hf]; rfl)
              rw [tbg id g hg] at h3
              rw [h3]
              exact rowsOf_ok hR id g hg hf
            · rcases List.mem_cons.1 ha with rfl | ha
              · exact annT hs hw
              · obtain ⟨a1, a2⟩ := i5 a ha
                refine ⟨fun x hx => ?_, a2⟩
                have := a1 x hx
                have e1 := wr_dom (S.put d v) w (fun id r e => by rw [put_h]; exact (hid id r e).1) x
                rw [e1, put_h] at this
                exact this
          · exact h.elim
        · exact h.elim
      | some gd =>
        obtain ⟨j, b⟩ := gd
        simp only at h
        split at h
        · rename_i g k G' d hg
          obtain ⟨hgo, hG', hgk⟩ := xguard_ok hG hg
          split at h
          · rename_i cs v hs
            obtain ⟨hc, h⟩ := andK_all _ _ h
            unfold xstep at hs
            have hput : ∀ b, RV ρ (.gd g k v) b → Rel F ρ (S.put (some d) (.gd g k v)) (t.put d b) L := fun b hb => hR.put (some d) hb
            have hGA : GA ops.toList (S.put (some d) (.gd g k v)).s (dropG ops.toList d G') := hG'.put fun c k' x e g' hk => by
                injection e with e1 e2 e3
                subst e1
                exact (hgk k' e2 g' hk).symm
            have hkk : g = true → ∀ k1 g1, k = some k1 → fnd G' k1 = some g1 → g1 = true := fun hg1 k1 g1 e1 e2 => by rw [hgk k1 e1 g1 (fnd_mem _ _ _ e2)]; exact hg1
            have hgR : ∀ o s, nth ops.toList j = some o → o.dst = some s → RV ρ (look S.s s) ((rst (Oper.looksAt ops ⟨some d, op, ty, pos, af, some (j, b)⟩) t) s) := fun o s h1 h2 => by
              rw [rst_guard (o := ⟨some d, op, ty, pos, af, some (j, b)⟩) rfl h1 h2]; exact hR.sl s
            -- the value, whichever the test
            obtain ⟨b', hb', hst⟩ : ∃ b', RV ρ (.gd g k v) b' ∧ ∀ L1, (∀ x ∈ thereB S.h (touch S.s op), (L (tbOf ρ n x)).isSome = true → L1 (tbOf ρ n x) = L (tbOf ρ n x)) → StepW P N ops ⟨some d, op, ty, pos, af, some (j, b)⟩ (rst (Oper.looksAt ops ⟨some d, op, ty, pos, af, some (j, b)⟩) t) L1 ((rst (Oper.looksAt ops ⟨some d, op, ty, pos, af, some (j, b)⟩) t).putO (some d) b') L1 := by
              cases hg1 : g with
              | false =>
                refine ⟨.p undef, by simp only [RV]; exact ⟨fun h => (by cases h), fun _ => trivial⟩, fun L1 _ Q os' K' => ?_⟩
                exact guard_ok (S := S) hgR hgo hd (fun h => by rw [hg1] at h; cases h) (fun _ => K')
              | true =>
                obtain ⟨v', W, hv, hw, hj⟩ := xop_ok (P := P) (N := N) (ops := ops) (d := some d) (ty := ty) (pos := pos) (af := af) (rows := rowsOf ρ L) (val := ev t) hX (fun x _ hc => st_okO hR hG' (hkk hg1) hc)
                  (fun c a b hop tb hc hv => pick_ok hR hG' (hkk hg1) c a b hop tb hc hv) (fun id _ r hf g hg => RRow.rows (L := L) hR.rw (rowsOf_ok hR) id r hf g hg) hs (fun p hp => hc _ (List.mem_map_of_mem hp) hg1) hd (fun T x y e => by subst e; exact absurd rfl (store_wr hs))
                cases W with
                | some W => exact hw.elim
                | none =>
                  refine ⟨v', by simp only [RV]; exact ⟨fun _ => hv, fun h => (by cases h)⟩, fun L1 hag Q os' K' => ?_⟩
                  refine guard_ok (S := S) hgR hgo hd (fun _ => ?_) (fun h => by rw [hg1] at h; cases h)
                  refine hj _ L1 (fun x hx => rst_ev (o := ⟨some d, op, ty, pos, af, some (j, b)⟩) hx t) (fun id hid2 g hg hf => ?_) Q os' K'
                  have h3 := hag id (by rw [touch_eq] at hid2; exact thereB_mem.2 ⟨hid2, hf⟩) (by rw [tbg id g hg, rowsOf_ok hR id g hg hf]; rfl)
                  rw [tbg id g hg] at h3
                  rw [h3]
                  exact rowsOf_ok hR id g hg hf
            obtain ⟨ann, S', t', L', i1, i2, i3, i4, i5, i6⟩ := xdr_ok hX n os _ _ _ K _ _ h (hput b' hb') hGA
            refine ⟨(thereB S.h (touch S.s op), none) :: ann, S', t', L', by simp [i1], ⟨b', none, ?_, fun L1 hag => hst L1 hag, i2⟩, i3, by simpa using i4, fun a ha => ?_, by simp [hd, i6]⟩
            · rfl
            · rcases List.mem_cons.1 ha with rfl | ha
              · exact annT (W := none) hs trivial
              · exact i5 a ha
          · exact h.elim
        · exact h.elim

/-- What a new variable's block holds. -/
def rowAl (X : Cx) (l : List Oper) (k : Nat) : Row := match l[k]? with
  | some ⟨_, .alloc T, _, _, _, _⟩ => match fnd X.I T with
    | some (z, _, _) => ⟨T, true, z.cells.toList.map AV.p⟩
    | none => ⟨0, true, []⟩
  | _ => ⟨0, true, []⟩
theorem xal_step {X : Cx} (hX : X.ok P) {l : List Oper} : ∀ (os : List Oper) (k : Nat) (S S2 : XS), (∀ i, i < os.length → os[i]? = l[k + i]?) → xal X N os S = some S2 → ∀ (i : Nat) (o : Oper), os[i]? = some o → isAl o = true → StepA P N ops o (dstAt l (k + i)) (rowAl X l (k + i))
  | [], _, _, _, _, _, i, o, h, _ => by simp at h
  | o :: os, k, S, S2, hl, hx, i, o', ho', ha => by
    unfold xal at hx
    split at hx
    · rename_i d T hd hdk hop
      split at hx
      · rename_i u z z1 z2 hu hi
        split at hx
        · rename_i h3
          cases i with
          | zero =>
            obtain rfl : o = o' := by simpa using ho'
            have hlk : l[k]? = some o := by have := hl 0 (by simp); simpa using this.symm
            obtain ⟨od, oop, oty, opos, oaf, ogd⟩ := o
            simp only at hd hdk hop
            subst hd hop
            have hgd : ogd = none := by
              unfold isAl at ha
              split at ha
              · rename_i heq
                simp only [Oper.mk.injEq] at heq
                exact heq.2.2.2.2.2
              · cases ha
            subst hgd
            intro t L Q os' K
            have e1 : dstAt l (k + 0) = d := by unfold dstAt; rw [Nat.add_zero, hlk]; rfl
            have e2 : rowAl X l (k + 0) = ⟨T, true, z.cells.toList.map AV.p⟩ := by
              unfold rowAl
              rw [Nat.add_zero, hlk]
              simp only
              rw [hi]
            rw [e1, e2] at K
            exact R.alloc (okI_fnd hX.I hi) rfl (RVL.ones h3 (zcells_ok (fun _ => none) z)) (xdok_eq hdk) fun g hg => K g hg
          | succ i =>
            rw [show k + (i + 1) = k + 1 + i by omega]
            exact xal_step hX os (k + 1) _ S2 (fun j hj => by have := hl (j + 1) (by simpa using hj); rw [show k + 1 + j = k + (j + 1) by omega]; simpa using this) hx i o' (by simpa using ho') ha
        · cases hx
      · cases hx
    · cases hx
theorem xal_ok {X : Cx} {l : List Oper} {σ : Nat → Nat} : ∀ (os : List Oper) (k : Nat) (S S2 : XS) (ρ : Rho) (t : TM) (L : GH), (∀ i, i < os.length → os[i]? = l[k + i]?) → xal X N os S = some S2 → Rel F ρ S t L →
    (∀ i, i < os.length → L (σ (k + i)) = none) → (∀ i j, i < os.length → j < os.length → σ (k + i) = σ (k + j) → i = j) → ∃ ρ2, Rel F ρ2 S2 (finT (dstAt l) σ k os.length t) (finL (rowAl X l) σ k os.length L)
  | [], k, S, S2, ρ, t, L, _, hx, hR, _, _ => by
    obtain rfl := Option.some.inj hx
    exact ⟨ρ, hR⟩
  | o :: os, k, S, S2, ρ, t, L, hl, hx, hR, hf, hij => by
    unfold xal at hx
    split at hx
    · rename_i d T hd hdk hop
      split at hx
      · rename_i u z z1 z2 hu hi
        split at hx
        · rename_i h3
          have hlk : l[k]? = some o := by have := hl 0 (by simp); simpa using this.symm
          obtain ⟨od, oop, oty, opos, oaf, ogd⟩ := o
          simp only at hd hdk hop
          subst hd hop
          have e1 : dstAt l k = d := by unfold dstAt; rw [hlk]; rfl
          have e2 : rowAl X l k = ⟨T, true, z.cells.toList.map AV.p⟩ := by
            unfold rowAl
            rw [hlk]
            simp only
            rw [hi]
          have hg : L (σ k) = none := by simpa using hf 0 (by simp)
          have hR2 := Rel.put (Rel.new (r := .one T true (zcells z)) (row := ⟨T, true, z.cells.toList.map AV.p⟩) hR hg (by simp only [RRow]; exact ⟨trivial, trivial, zcells_ok _ z⟩)) (some d) (v := .ptr S.nx 0 0 0) (b := .ptr (σ k) 0) (by simp only [RV]; exact ⟨σ k, set_same _ _ _, by simp⟩)
          obtain ⟨ρ2, h2⟩ := xal_ok os (k + 1) _ S2 _ _ _ (fun j hj => by have := hl (j + 1) (by simpa using hj); rw [show k + 1 + j = k + (j + 1) by omega]; simpa using this) hx hR2 (fun i hi2 => by
              have hne : σ (k + 1 + i) ≠ σ k := fun e => by
                have := hij (i + 1) 0 (by simpa using hi2) (by simp) (by rw [show k + (i + 1) = k + 1 + i by omega, Nat.add_zero]; exact e)
                omega
              rw [upd_ne _ _ _ _ hne]
              have := hf (i + 1) (by simpa using hi2)
              rwa [show k + (i + 1) = k + 1 + i by omega] at this) (fun i j hi2 hj2 e => by
              have := hij (i + 1) (j + 1) (by simpa using hi2) (by simpa using hj2) (by rw [show k + (i + 1) = k + 1 + i by omega, show k + (j + 1) = k + 1 + j by omega]; exact e)
              omega)
          refine ⟨ρ2, ?_⟩
          rw [List.length_cons, finT, finL, e1, e2]
          exact h2
        · cases hx
      · cases hx
    · cases hx
end
end Go.Proofs.YtljgkjkdmoejfaaAv
