/-
  SYMBOLIC RUNS over the model (own framework, part 18): loads, stores, literals, slices cut, calls; all operations that make no block.
-/
import Derived.Test.YtljgkjkdmoejfaaAvXo
set_option linter.unusedVariables false
set_option linter.unusedSimpArgs false
namespace Go.Proofs.YtljgkjkdmoejfaaAv
open Go Go.RowKit

section
variable {P : Program} {N : Nat} {ops : Array Oper} {d : Option Nat} {ty : TypeId} {pos : String} {af : Array Edge} {op : Op} {ρ : Rho} {h : List (Nat × XRow)} {rows : Nat → Row} {val : Operand → AV} {v : XV}

theorem toAVL_length (l : List XV) : (toAVL l).length = l.length := by rw [toAVL_map, List.length_map]

theorem cl_cells (ρ : Rho) : ∀ (f : List XV) (m o : Nat), RVL ρ ((xel f m o).map XV.cl) ((List.range m).map fun k => (toAVL f).getD (o + k) .top)
  | f, m, o => by
    rw [xel_eq, List.map_map]
    generalize List.range m = r
    induction r with
    | nil => simp [RVL]
    | cons k r ih => simp only [List.map_cons, RVL]; exact ⟨RV.cl_top ρ f (o + k), ih⟩
theorem cl_cells2 (ρ : Rho) : ∀ (cs : List XV), RVL ρ (cs.map XV.cl) (toAVL cs)
  | [] => by simp [RVL, toAVL]
  | c :: cs => by simp only [List.map_cons, toAVL, RVL]; exact ⟨RV.cl ρ c, cl_cells2 ρ cs⟩

theorem bools_sel {cs : List XV} : ∀ {l : List Bool}, boolsX cs = some l → ∀ j, j < cs.length → (cs[j]?) = some (.v (.p (.bool (l.getD j false)))) := by
  induction cs with
  | nil => intro l h j hj; simp at hj
  | cons c cs ih =>
    intro l h j hj
    unfold boolsX at h
    split at h
    · rename_i h0; cases h0
    · rename_i b l' heq
      injection heq with h1 h2
      subst h1 h2
      split at h
      · rename_i r hr
        simp only [Option.some.injEq] at h
        subst h
        cases j with
        | zero => simp
        | succ j => simpa using ih hr j (by simpa using hj)
      · cases h
    · cases h
theorem ints_sel {k : IntKind} {cs : List XV} : ∀ {l : List Int}, intsX k cs = some l → ∀ j, j < cs.length → (cs[j]?) = some (.v (.p (.int k (l.getD j 0)))) := by
  induction cs with
  | nil => intro l h j hj; simp at hj
  | cons c cs ih =>
    intro l h j hj
    unfold intsX at h
    split at h
    · rename_i h0; cases h0
    · rename_i k' b l' heq
      injection heq with h1 h2
      subst h1 h2
      split at h
      · rename_i r hk hr
        simp only [Option.some.injEq] at h
        subst h
        have := kb_eq hk
        subst this
        cases j with
        | zero => simp
        | succ j => simpa using ih hr j (by simpa using hj)
      · cases h
    · cases h
theorem textsS_sel {cs : List XV} : ∀ {l : List ByteArray}, textsS cs = some l → ∀ j, j < cs.length → (cs[j]?) = some (.v (.p (.string (l.getD j ⟨#[]⟩)))) := by
  induction cs with
  | nil => intro l h j hj; simp at hj
  | cons c cs ih =>
    intro l h j hj
    unfold textsS at h
    split at h
    · rename_i h0; cases h0
    · rename_i b l' heq
      injection heq with h1 h2
      subst h1 h2
      split at h
      · rename_i r hr
        simp only [Option.some.injEq] at h
        subst h
        cases j with
        | zero => simp
        | succ j => simpa using ih hr j (by simpa using hj)
      · cases h
    · cases h
theorem xsel_ok {cs : List XV} {j : Nat} (hs : xsel cs j = some v) (hj : j < cs.length) : ∃ a, cs[j]? = some (.v a) ∧ v = .v a := by
  unfold xsel at hs
  split at hs
  · rename_i l hl
    simp only [Option.some.injEq] at hs
    exact ⟨_, bools_sel hl j hj, hs.symm⟩
  · split at hs
    · split at hs
      · rename_i l hl
        simp only [Option.some.injEq] at hs
        exact ⟨_, ints_sel hl j hj, hs.symm⟩
      · cases hs
    · split at hs
      · rename_i l hl
        simp only [Option.some.injEq] at hs
        exact ⟨_, textsS_sel hl j hj, hs.symm⟩
      · cases hs
    · cases hs

theorem boolsP_get : ∀ (l : List XV) (j : Nat), j < (boolsP l).length → l[j]? = some (.v (.p (.bool ((boolsP l).getD j false))))
  | [], j, h => by simp [boolsP] at h
  | x :: l, j, h => by
    unfold boolsP at h ⊢
    split at h
    · rename_i b l' heq
      injection heq with e1 e2
      subst e1 e2
      cases j with
      | zero => rfl
      | succ j => simpa using boolsP_get l j (by simpa using h)
    · simp at h
theorem textsP_get : ∀ (l : List XV) (j : Nat), j < (textsP l).length → l[j]? = some (.v (.p (.string ((textsP l).getD j ⟨#[]⟩))))
  | [], j, h => by simp [textsP] at h
  | x :: l, j, h => by
    unfold textsP at h ⊢
    split at h
    · rename_i b l' heq
      injection heq with e1 e2
      subst e1 e2
      cases j with
      | zero => rfl
      | succ j => simpa using textsP_get l j (by simpa using h)
    · simp at h
theorem intsP_get (k : IntKind) : ∀ (l : List XV) (j : Nat), j < (intsP k l).length → l[j]? = some (.v (.p (.int k ((intsP k l).getD j 0))))
  | [], j, h => by simp [intsP] at h
  | x :: l, j, h => by
    unfold intsP at h ⊢
    split at h
    · rename_i k' b l' heq
      injection heq with e1 e2
      subst e1 e2
      cases hk : kb k' k with
      | false => rw [hk] at h; simp at h
      | true =>
        obtain rfl := kb_eq hk
        rw [hk] at h
        cases j with
        | zero => rfl
        | succ j => simpa using intsP_get _ l j (by simpa using h)
    · simp at h
theorem xselp_ok {l : List XV} {j n : Nat} (hs : xselp j l = some (n, v)) (hj : j < n) : ∃ a, l[j]? = some (.v a) ∧ v = .v a := by
  unfold xselp at hs
  split at hs
  · rename_i b l
    simp only [Option.some.injEq, Prod.mk.injEq] at hs
    obtain ⟨rfl, rfl⟩ := hs
    have := boolsP_get (.v (.p (.bool b)) :: l) j (by simpa [boolsP] using hj)
    exact ⟨_, this, by simp [boolsP]⟩
  · rename_i k b l
    simp only [Option.some.injEq, Prod.mk.injEq] at hs
    obtain ⟨rfl, rfl⟩ := hs
    have hk : kb k k = true := by cases k <;> first | rfl | skip
    have := intsP_get k (.v (.p (.int k b)) :: l) j (by simpa [intsP, hk] using hj)
    exact ⟨_, this, by simp [intsP, hk]⟩
  · rename_i b l
    simp only [Option.some.injEq, Prod.mk.injEq] at hs
    obtain ⟨rfl, rfl⟩ := hs
    have := textsP_get (.v (.p (.string b)) :: l) j (by simpa [textsP] using hj)
    exact ⟨_, this, by simp [textsP]⟩
  · cases hs
theorem setB_gt {j : Nat} {v : Bool} : ∀ (l : List XV) (k : Nat) (bs : List AV), j < k → RVL ρ l bs → RVL ρ (setB j v k l) bs
  | [], k, bs, _, h => by simpa [setB] using h
  | x :: l, k, [], _, h => by simp [RVL] at h
  | x :: l, k, b :: bs, hk, h => by
    simp only [RVL] at h
    unfold setB
    split
    · rename_i b'
      rw [beqN, decide_eq_false (by omega), cond_false]
      simp only [RVL]
      exact ⟨h.1, setB_gt l (k + 1) bs (by omega) h.2⟩
    · simp only [RVL]; exact h
theorem setB_at {j : Nat} {v : Bool} : ∀ (l : List XV) (k : Nat) (bs : List AV), k ≤ j → j - k < (boolsP l).length → RVL ρ l bs → RVL ρ (setB j v k l) (bs.set (j - k) (.p (.bool v)))
  | [], k, bs, _, hl, _ => by simp [boolsP] at hl
  | x :: l, k, [], _, _, h => by simp [RVL] at h
  | x :: l, k, b :: bs, hk, hl, h => by
    simp only [RVL] at h
    unfold boolsP at hl
    unfold setB
    split at hl
    · rename_i b' l' heq
      injection heq with e1 e2
      subst e1 e2
      simp only [beqN]
      rcases Nat.eq_or_lt_of_le hk with he | he
      · obtain rfl : j = k := he.symm
        rw [decide_eq_true rfl, cond_true, Nat.sub_self, List.set_cons_zero]
        simp only [RVL, RV]
        exact ⟨trivial, setB_gt l (j + 1) bs (by omega) h.2⟩
      · rw [decide_eq_false (by omega), cond_false, show j - k = (j - (k + 1)) + 1 by omega, List.set_cons_succ]
        simp only [RVL]
        exact ⟨h.1, setB_at l (k + 1) bs (by omega) (by simp at hl; omega) h.2⟩
    · simp at hl
theorem setT_gt {j : Nat} {v : ByteArray} : ∀ (l : List XV) (k : Nat) (bs : List AV), j < k → RVL ρ l bs → RVL ρ (setT j v k l) bs
  | [], k, bs, _, h => by simpa [setT] using h
  | x :: l, k, [], _, h => by simp [RVL] at h
  | x :: l, k, b :: bs, hk, h => by
    simp only [RVL] at h
    unfold setT
    split
    · rename_i b'
      rw [beqN, decide_eq_false (by omega), cond_false]
      simp only [RVL]
      exact ⟨h.1, setT_gt l (k + 1) bs (by omega) h.2⟩
    · simp only [RVL]; exact h
theorem setT_at {j : Nat} {v : ByteArray} : ∀ (l : List XV) (k : Nat) (bs : List AV), k ≤ j → j - k < (textsP l).length → RVL ρ l bs → RVL ρ (setT j v k l) (bs.set (j - k) (.p (.string v)))
  | [], k, bs, _, hl, _ => by simp [textsP] at hl
  | x :: l, k, [], _, _, h => by simp [RVL] at h
  | x :: l, k, b :: bs, hk, hl, h => by
    simp only [RVL] at h
    unfold textsP at hl
    unfold setT
    split at hl
    · rename_i b' l' heq
      injection heq with e1 e2
      subst e1 e2
      simp only [beqN]
      rcases Nat.eq_or_lt_of_le hk with he | he
      · obtain rfl : j = k := he.symm
        rw [decide_eq_true rfl, cond_true, Nat.sub_self, List.set_cons_zero]
        simp only [RVL, RV]
        exact ⟨trivial, setT_gt l (j + 1) bs (by omega) h.2⟩
      · rw [decide_eq_false (by omega), cond_false, show j - k = (j - (k + 1)) + 1 by omega, List.set_cons_succ]
        simp only [RVL]
        exact ⟨h.1, setT_at l (k + 1) bs (by omega) (by simp at hl; omega) h.2⟩
    · simp at hl
theorem setI_gt {kd : IntKind} {j : Nat} {v : Int} : ∀ (l : List XV) (k : Nat) (bs : List AV), j < k → RVL ρ l bs → RVL ρ (setI kd j v k l) bs
  | [], k, bs, _, h => by simpa [setI] using h
  | x :: l, k, [], _, h => by simp [RVL] at h
  | x :: l, k, b :: bs, hk, h => by
    simp only [RVL] at h
    unfold setI
    split
    · rename_i k' b'
      split
      · rename_i hkb
        obtain rfl := kb_eq hkb
        rw [beqN, decide_eq_false (by omega), cond_false]
        simp only [RVL]
        exact ⟨h.1, setI_gt l (k + 1) bs (by omega) h.2⟩
      · simp only [RVL]; exact h
    · simp only [RVL]; exact h
theorem setI_at {kd : IntKind} {j : Nat} {v : Int} : ∀ (l : List XV) (k : Nat) (bs : List AV), k ≤ j → j - k < (intsP kd l).length → RVL ρ l bs → RVL ρ (setI kd j v k l) (bs.set (j - k) (.p (.int kd v)))
  | [], k, bs, _, hl, _ => by simp [intsP] at hl
  | x :: l, k, [], _, _, h => by simp [RVL] at h
  | x :: l, k, b :: bs, hk, hl, h => by
    simp only [RVL] at h
    unfold intsP at hl
    unfold setI
    split at hl
    · rename_i k' b' l' heq
      injection heq with e1 e2
      subst e1 e2
      cases hkb : kb k' kd with
      | false => rw [hkb] at hl; simp at hl
      | true =>
        obtain rfl := kb_eq hkb
        rw [hkb] at hl
        simp only [hkb, beqN]
        rcases Nat.eq_or_lt_of_le hk with he | he
        · obtain rfl : j = k := he.symm
          rw [decide_eq_true rfl, cond_true, Nat.sub_self, List.set_cons_zero]
          simp only [RVL, RV]
          exact ⟨trivial, setI_gt l (j + 1) bs (by omega) h.2⟩
        · rw [decide_eq_false (by omega), cond_false, show j - k = (j - (k + 1)) + 1 by omega, List.set_cons_succ]
          simp only [RVL]
          exact ⟨h.1, setI_at l (k + 1) bs (by omega) (by simp at hl; omega) h.2⟩
    · simp at hl
theorem xsetp_ok {c l l' : List XV} {bs ds : List AV} {j n : Nat} (hs : xsetp j c l = some (n, l')) (hj : j < n) (hl : RVL ρ l bs) (hc : RVL ρ c ds) : ∃ b, ds = [b] ∧ RVL ρ l' (bs.set j b) ∧ j < l.length := by
  have one : ∀ {x : XV} {ds : List AV}, RVL ρ [x] ds → ∃ b, ds = [b] ∧ RV ρ x b := by
    intro x ds h
    cases ds with
    | nil => simp [RVL] at h
    | cons b ds =>
      simp only [RVL] at h
      cases ds with
      | nil => exact ⟨b, rfl, h.1⟩
      | cons _ _ => simp [RVL] at h
  have lt : ∀ {a : XV}, l[j]? = some a → j < l.length := fun h => by
    rcases Nat.lt_or_ge j l.length with h' | h'
    · exact h'
    · rw [List.getElem?_eq_none h'] at h; cases h
  unfold xsetp at hs
  split at hs
  · simp only [Option.some.injEq, Prod.mk.injEq] at hs
    obtain ⟨rfl, rfl⟩ := hs
    obtain ⟨b, rfl, hb⟩ := one hc
    simp only [RV] at hb
    subst hb
    exact ⟨_, rfl, by simpa using setB_at l 0 bs (Nat.zero_le _) (by simpa using hj) hl, lt (boolsP_get l j hj)⟩
  · simp only [Option.some.injEq, Prod.mk.injEq] at hs
    obtain ⟨rfl, rfl⟩ := hs
    obtain ⟨b, rfl, hb⟩ := one hc
    simp only [RV] at hb
    subst hb
    exact ⟨_, rfl, by simpa using setI_at l 0 bs (Nat.zero_le _) (by simpa using hj) hl, lt (intsP_get _ l j hj)⟩
  · simp only [Option.some.injEq, Prod.mk.injEq] at hs
    obtain ⟨rfl, rfl⟩ := hs
    obtain ⟨b, rfl, hb⟩ := one hc
    simp only [RV] at hb
    subst hb
    exact ⟨_, rfl, by simpa using setT_at l 0 bs (Nat.zero_le _) (by simpa using hj) hl, lt (textsP_get l j hj)⟩
  · cases hs

theorem xload_ok {X : Cx} (hX : X.ok P) {T : TypeId} {x : Operand} {a : XV} {ag : Bool} {z : Value} {m b : Nat} {cs : List Prop} (ha : aggB (fnd X.U T) = some ag) (hi : fnd X.I T = some (z, m, b)) (hb : xload h ag m a = some (cs, v)) (hc : ∀ p ∈ cs, p)
    (hx : RV ρ a (val x)) (hrow : ∀ id, (ptrId a) = [id] → ∀ r, findR h id = some r → ∀ g, ρ id = some (some g) → RRow ρ r (rows id)) (hd : dok N d = true) :
    OpOk P N ops d ty pos af (.load T x) ρ h rows val (ptrId a) v none := by
  have hI := okI_fnd hX.I hi
  obtain ⟨u, hu, hag⟩ : ∃ u, P.underlying T = some u ∧ aggT u = ag := by
    unfold aggB at ha
    split at ha
    · rename_i u hu
      exact ⟨u, okU_fnd hX.U hu, Option.some.inj ha⟩
    · cases ha
  unfold xload at hb
  simp only [xforce_eq] at hb
  cases a with
  | ptr id sz i o =>
    simp only [ptrId] at hb hrow ⊢
    simp only [RV] at hx
    obtain ⟨g, hg, hx⟩ := hx
    have hrow' := fun r hr => hrow id rfl r hr g hg
    split at hb
    · -- a variable
      rename_i e ap l hr
      have hR := hrow' _ hr
      simp only [RRow] at hR
      obtain ⟨-, -, hR⟩ := hR
      have hlen := hR.length
      split at hb
      · simp only [Nat.zero_mul, Nat.zero_add] at hx
        split at hb
        · split at hb
          · rename_i hle
            simp only [Option.some.injEq, Prod.mk.injEq] at hb
            obtain ⟨-, rfl⟩ := hb
            rw [bleN, decide_eq_true_eq, xlen_eq] at hle
            have hm : (((rows id).cs.drop o).take m).length = m := by rw [List.length_take, List.length_drop]; omega
            refine ⟨.agg (((rows id).cs.drop o).take m), none, ?_, trivial, fun t L ht hL Q os K => ?_⟩
            · simp only [RV]
              exact ⟨_, rfl, by rw [xtake_eq, xdrop_eq]; exact (hR.drop o).take m⟩
            · exact JO.ldAgg (r := rows id) hu hag (by rw [hm]; exact hI) (by rw [ht x (by simp [Op.operands]), hx]) (hL id (by simp) g hg (by rw [hr]; rfl)) (by rw [hm]) (by rw [hm]; omega) hd K
          · cases hb
        · split at hb
          · rename_i hlt
            simp only [Option.some.injEq, Prod.mk.injEq] at hb
            obtain ⟨-, rfl⟩ := hb
            obtain ⟨c, hcc, hv⟩ := hR.getD' o hlt
            exact ⟨c, none, hv, trivial, fun t L ht hL Q os K => JO.ldOwnA hu hag (by rw [ht x (by simp [Op.operands]), hx]) (hL id (by simp) g hg (by rw [hr]; rfl)) hcc hd K⟩
          · cases hb
      · split at hb
        · rename_i n w hs
          simp only [Option.some.injEq, Prod.mk.injEq] at hb
          obtain ⟨rfl, rfl⟩ := hb
          obtain ⟨aa, hcell, rfl⟩ := xselp_ok hs (all1 hc)
          rw [xdrop_eq, List.getElem?_drop] at hcell
          rw [Nat.mul_one, Nat.add_comm] at hx
          have hlt : o + i < l.length := by
            rcases Nat.lt_or_ge (o + i) l.length with h | h
            · exact h
            · rw [List.getElem?_eq_none h] at hcell; cases hcell
          obtain ⟨c, hcc, hv⟩ := hR.get (o + i) hlt
          rw [List.getD_eq_getElem?_getD, hcell] at hv
          simp only [Option.getD_some, RV] at hv
          subst hv
          exact ⟨_, none, RV.v _ _, trivial, fun t L ht hL Q os K => JO.ldOwnA hu hag (by rw [ht x (by simp [Op.operands]), hx]) (hL id (by simp) g hg (by rw [hr]; rfl)) hcc hd K⟩
        · cases hb
      · cases hb
    · -- an element
      rename_i e ap n s f hr
      have hR := hrow' _ hr
      simp only [RRow] at hR
      split at hb
      · rename_i hs
        rw [beqN, decide_eq_true_eq] at hs
        subst hs
        split at hb
        · split at hb
          · rename_i hle
            simp only [Option.some.injEq, Prod.mk.injEq] at hb
            obtain ⟨rfl, rfl⟩ := hb
            have hin : i < n := all1 hc
            rw [bleN, decide_eq_true_eq] at hle
            have hseg := vecOf_seg (g := fun i => toAVL (f i)) hin hle
            have hm : ((List.range m).map fun k => (toAVL (f i)).getD (o + k) AV.top).length = m := by simp
            refine ⟨.agg ((List.range m).map fun k => (toAVL (f i)).getD (o + k) .top), none, ?_, trivial, fun t L ht hL Q os K => ?_⟩
            · simp only [RV]
              exact ⟨_, rfl, cl_cells ρ (f i) m o⟩
            · have h1 : (i + 1) * s ≤ n * s := Nat.mul_le_mul_right _ hin
              rw [Nat.add_mul] at h1
              exact JO.ldAgg (r := rows id) hu hag (by rw [hm]; exact hI) (by rw [ht x (by simp [Op.operands]), hx]) (hL id (by simp) g hg (by rw [hr]; rfl)) (by rw [hm, hR]; exact hseg) (by rw [hm, hR, vecOf_length]; omega) hd K
          · cases hb
        · split at hb
          · rename_i hlt
            simp only [Option.some.injEq, Prod.mk.injEq] at hb
            obtain ⟨rfl, rfl⟩ := hb
            have hin : i < n := all1 hc
            rw [bltN, decide_eq_true_eq] at hlt
            refine ⟨_, none, by rw [xget_eq]; exact RV.cl_top ρ (f i) o, trivial, fun t L ht hL Q os K => JO.ldOwnA hu hag (by rw [ht x (by simp [Op.operands]), hx]) (hL id (by simp) g hg (by rw [hr]; rfl)) (by rw [hR]; exact vecOf_get (g := fun i => toAVL (f i)) hin hlt) hd K⟩
          · cases hb
      · cases hb
    · -- the element by itself
      rename_i e ap n s i' l f hr
      have hR := hrow' _ hr
      simp only [RRow] at hR
      split at hb
      · rename_i hs
        rw [beqN, decide_eq_true_eq] at hs
        subst hs
        split at hb
        · split at hb
          · rename_i hle
            simp only [Option.some.injEq, Prod.mk.injEq] at hb
            obtain ⟨rfl, rfl⟩ := hb
            have hii : i = i' := all1 hc
            subst hii
            have hin : i < n := all2 hc
            have hfi : (bif Nat.beq i i then l else f i) = l := by rw [beqN]; simp
            rw [bleN, decide_eq_true_eq] at hle
            have hseg := vecOf_seg (g := fun j => toAVL (bif Nat.beq j i then l else f j)) hin hle
            simp only [hfi] at hseg
            have hm : ((List.range m).map fun k => (toAVL l).getD (o + k) AV.top).length = m := by simp
            refine ⟨.agg ((List.range m).map fun k => (toAVL l).getD (o + k) .top), none, ?_, trivial, fun t L ht hL Q os K => ?_⟩
            · simp only [RV]
              exact ⟨_, rfl, cl_cells ρ l m o⟩
            · have h1 : (i + 1) * s ≤ n * s := Nat.mul_le_mul_right _ hin
              rw [Nat.add_mul] at h1
              exact JO.ldAgg (r := rows id) hu hag (by rw [hm]; exact hI) (by rw [ht x (by simp [Op.operands]), hx]) (hL id (by simp) g hg (by rw [hr]; rfl)) (by rw [hm, hR]; exact hseg) (by rw [hm, hR, vecOf_length]; omega) hd K
          · cases hb
        · split at hb
          · rename_i hlt
            simp only [Option.some.injEq, Prod.mk.injEq] at hb
            obtain ⟨rfl, rfl⟩ := hb
            have hii : i = i' := all1 hc
            subst hii
            have hin : i < n := all2 hc
            have hfi : (bif Nat.beq i i then l else f i) = l := by rw [beqN]; simp
            rw [bltN, decide_eq_true_eq] at hlt
            have hget := vecOf_get (g := fun j => toAVL (bif Nat.beq j i then l else f j)) hin hlt
            simp only [hfi] at hget
            refine ⟨_, none, by rw [xget_eq]; exact RV.cl_top ρ l o, trivial, fun t L ht hL Q os K => JO.ldOwnA hu hag (by rw [ht x (by simp [Op.operands]), hx]) (hL id (by simp) g hg (by rw [hr]; rfl)) (by rw [hR]; exact hget) hd K⟩
          · cases hb
      · cases hb
    · cases hb
  | fp ds =>
    simp only [ptrId] at hb ⊢
    simp only [RV] at hx
    obtain ⟨es, hx⟩ := hx
    split at hb
    · split at hb
      · rename_i hle
        simp only [Option.some.injEq, Prod.mk.injEq] at hb
        obtain ⟨-, rfl⟩ := hb
        rw [bleN, decide_eq_true_eq, xlen_eq] at hle
        have hm : (toAVL (ds.take m)).length = m := by rw [toAVL_length, List.length_take]; omega
        refine OpOk.pure (.agg (toAVL (ds.take m))) ?_ fun t L ht Q os K => JO.ldAggFp (ds := toAVL ds ++ es) hu hag (by rw [hm]; exact hI) (by rw [ht x (by simp [Op.operands]), hx]) ?_ hd K
        · simp only [RV]
          exact ⟨_, rfl, by rw [xtake_eq]; exact cl_cells2 ρ _⟩
        · rw [hm, List.take_append, toAVL_length, show m - ds.length = 0 by omega, List.take_zero, List.append_nil, toAVL_map, toAVL_map, List.map_take]
      · cases hb
    · split at hb
      · simp only [Option.some.injEq, Prod.mk.injEq] at hb
        obtain ⟨-, rfl⟩ := hb
        rename_i y l
        exact OpOk.pure (toAV y) (RV.cl ρ y) fun t L ht Q os K => JO.ldFp hu (by cases u <;> simp_all [aggT]) (by rw [ht x (by simp [Op.operands]), hx]) (by simp [toAVL]) hd K
      · cases hb
  | fsel ds j =>
    simp only [ptrId] at hb ⊢
    split at hb
    · split at hb
      · rename_i w hs
        simp only [Option.some.injEq, Prod.mk.injEq] at hb
        obtain ⟨rfl, rfl⟩ := hb
        have hj : j < ds.length := all1 hc
        obtain ⟨aa, hcell, rfl⟩ := xsel_ok hs hj
        simp only [RV] at hx
        obtain ⟨es, hx⟩ := hx hj
        refine OpOk.pure aa (RV.v _ _) fun t L ht Q os K => JO.ldFp hu (by cases u <;> simp_all [aggT]) (by rw [ht x (by simp [Op.operands]), hx]) ?_ hd K
        rw [toAVL_map, List.getElem?_append_left (by simp; omega), List.getElem?_map, List.getElem?_drop, Nat.add_zero, hcell]
        rfl
      · cases hb
    · cases hb
  | _ => simp at hb

theorem xsplice_eq (l cs : List XV) (o : Nat) : xsplice l cs o = l.take o ++ (cs ++ l.drop (o + cs.length)) := by
  unfold xsplice
  rw [xapp_eq, xapp_eq, xtake_eq, xdrop_eq, xlen_eq]

/-- A store into an element. -/
theorem stEl {X : Cx} {T : TypeId} {x y : Operand} {c : XV} {z : Value} {m b : Nat} {id sz i o g n s : Nat} {e : TypeId} {ap : Bool} {f f0 : Nat → List XV} {r0 : XRow} (hi : fnd X.I T = some (z, m, b)) (hI : TI P T z m b) (hm : m = c.cells.length) (hcl : RVL ρ c.cells (val y).cells) (hone : ones (val y).cells = true) (hlen : c.cells.length = (val y).cells.length)
    (hx : val x = AV.ptr g (i * sz + o)) (hg : ρ id = some (some g)) (hy : RV ρ c (val y)) (hs : Nat.beq s sz = true) (hle : Nat.ble (o + xlen c.cells) s = true) (hp : xpure c.cells = true) (hin : i < n) (hR : rows id = ⟨e, ap, vecOf n s fun j => toAVL (f j)⟩) (hr : findR h id = some r0) (hf0 : ∀ j, j ≠ i → f j = f0 j) :
    OpOk P N ops none ty pos af (.store T x y) ρ h rows val [id] .top (some (id, .vecU e ap n s i (xsplice (xel (f i) s 0) c.cells o) f0)) := by
  rw [beqN, decide_eq_true_eq] at hs
  subst hs
  rw [bleN, decide_eq_true_eq, xlen_eq] at hle
  have hvc : (val y).cells = toAVL c.cells := hcl.pure hp
  have h1s : (i + 1) * s ≤ n * s := Nat.mul_le_mul_right _ hin
  rw [Nat.add_mul] at h1s
  refine ⟨.top, some (g, ⟨(rows id).e, (rows id).ap, (rows id).cs.take (i * s + o) ++ (val y).cells ++ (rows id).cs.drop (i * s + o + (val y).cells.length)⟩), by simp [RV], ⟨hg, ?_⟩, fun t L ht hL Q os K => ?_⟩
  · simp only [RRow]
    rw [hR]
    simp only
    congr 1
    rw [vecOf_set hin (by rw [← hlen]; omega)]
    apply vecOf_congr
    intro j hj
    rw [beqN]
    by_cases hji : j = i
    · subst hji
      simp only [decide_true, cond_true]
      rw [xsplice_eq, toAVL_map (_ ++ _), List.map_append, List.map_append, List.map_take, List.map_drop, ← toAVL_map c.cells, hvc, toAVL_length, List.append_assoc]
      have he : (xel (f j) s 0).map toAV = (List.range s).map fun k => (toAVL (f j)).getD k AV.top := by
        rw [xel_eq, List.map_map]
        apply List.map_congr_left
        intro k _
        simp only [Function.comp, Nat.zero_add, toAVL_map]
        by_cases hk : k < (f j).length
        · simp [List.getD_eq_getElem?_getD, List.getElem?_eq_getElem hk]
        · simp [List.getD_eq_getElem?_getD, List.getElem?_eq_none (Nat.le_of_not_lt hk), toAV]
      rw [he]
    · simp only [hji, decide_false, cond_false]
      rw [hf0 j hji]
  · exact R.st hI (by omega) (by rw [ht x (by simp [Op.operands]), hx]) (hL id (by simp) g hg (by rw [hr]; rfl)) (by rw [ht y (by simp [Op.operands])]) hone (by rw [hR, vecOf_length, ← hlen]; omega) K
theorem xstore_ok {X : Cx} (hX : X.ok P) {T : TypeId} {x y : Operand} {a c : XV} {z : Value} {m b : Nat} {cs : List Prop} {w : Nat × XRow} (hi : fnd X.I T = some (z, m, b)) (hm : Nat.beq m (xlen c.cells) = true) (h1 : xones c.cells = true)
    (hb : xstore h c.cells a = some (cs, w)) (hc : ∀ p ∈ cs, p) (hx : RV ρ a (val x)) (hy : RV ρ c (val y))
    (hrow : ∀ id, (ptrId a) = [id] → ∀ r, findR h id = some r → ∀ g, ρ id = some (some g) → RRow ρ r (rows id)) :
    OpOk P N ops none ty pos af (.store T x y) ρ h rows val (ptrId a) .top (some w) := by
  have hI := okI_fnd hX.I hi
  obtain ⟨hcl, hone⟩ := RV.cells h1 hy
  have hlen := hcl.length
  rw [beqN, decide_eq_true_eq, xlen_eq] at hm
  unfold xstore at hb
  simp only [xforce_eq] at hb
  cases a with
  | ptr id sz i o =>
    simp only [ptrId] at hb hrow ⊢
    simp only [RV] at hx
    obtain ⟨g, hg, hx⟩ := hx
    have hrow' := fun r hr => hrow id rfl r hr g hg
    split at hb
    · rename_i e ap l hr
      have hR := hrow' _ hr
      simp only [RRow] at hR
      obtain ⟨hR1, hR2, hR⟩ := hR
      have hl2 := hR.length
      split at hb
      · rename_i hle
        simp only [Option.some.injEq, Prod.mk.injEq] at hb
        obtain ⟨-, rfl⟩ := hb
        rw [bleN, decide_eq_true_eq, xlen_eq, xlen_eq] at hle
        simp only [Nat.zero_mul, Nat.zero_add] at hx
        refine ⟨.top, some (g, ⟨(rows id).e, (rows id).ap, (rows id).cs.take o ++ (val y).cells ++ (rows id).cs.drop (o + (val y).cells.length)⟩), by simp [RV], ⟨hg, ?_⟩, fun t L ht hL Q os K => ?_⟩
        · simp only [RRow]
          refine ⟨hR1, hR2, ?_⟩
          rw [xsplice_eq, List.append_assoc, ← hlen]
          exact (hR.take o).append (hcl.append (hR.drop _))
        · exact R.st hI (by omega) (by rw [ht x (by simp [Op.operands]), hx]) (hL id (by simp) g hg (by rw [hr]; rfl)) (by rw [ht y (by simp [Op.operands])]) hone (by omega) K
      · rename_i i sz0 i0 bb0 hle0
        split at hb
        · rename_i n l' hs
          simp only [Option.some.injEq, Prod.mk.injEq] at hb
          obtain ⟨rfl, rfl⟩ := hb
          rw [Nat.mul_one, Nat.add_comm] at hx
          rw [xdrop_eq] at hs
          obtain ⟨b, hb1, hb2, hb3⟩ := xsetp_ok hs (all1 hc) (hR.drop o) hcl
          rw [List.length_drop] at hb3
          rw [hb1] at hlen hone
          have hm1 : m = 1 := by simpa using hm.trans hlen
          have hbb : b.one = true := by simpa [YtljgkjkdmoejfaaAv.ones] using hone
          refine ⟨.top, some (g, ⟨(rows id).e, (rows id).ap, (rows id).cs.take (o + i) ++ [b] ++ (rows id).cs.drop (o + i + 1)⟩), by simp [RV], ⟨hg, ?_⟩, fun t L ht hL Q os K => ?_⟩
          · simp only [RRow]
            refine ⟨hR1, hR2, ?_⟩
            have e : (rows id).cs.take (o + i) ++ [b] ++ (rows id).cs.drop (o + i + 1) = (rows id).cs.take o ++ ((rows id).cs.drop o).set i b := by
              have h1 : (rows id).cs.set (o + i) b = (rows id).cs.take (o + i) ++ [b] ++ (rows id).cs.drop (o + i + 1) := by
                rw [List.set_eq_take_append_cons_drop, if_pos (by omega)]
                simp
              rw [← h1]
              conv => lhs; rw [← List.take_append_drop o (rows id).cs]
              rw [List.set_append, if_neg (by rw [List.length_take]; omega)]
              congr 2
              rw [List.length_take]; omega
            rw [e, xapp_eq, xtake_eq]
            exact (hR.take o).append hb2
          · subst hm1
            exact R.st (cs := [b]) hI (by simp) (by rw [ht x (by simp [Op.operands]), hx]) (hL id (by simp) g hg (by rw [hr]; rfl)) (by rw [ht y (by simp [Op.operands])]; exact hb1) (by simpa [YtljgkjkdmoejfaaAv.ones] using hbb) (by simp; omega) K
        · cases hb
      · cases hb
    · rename_i e ap n s f hr
      have hR := hrow' _ hr
      simp only [RRow] at hR
      split at hb
      · rename_i hs hle hp
        simp only [Option.some.injEq, Prod.mk.injEq] at hb
        obtain ⟨rfl, rfl⟩ := hb
        exact stEl hi hI hm hcl hone hlen hx hg hy hs hle hp (all1 hc) hR hr (fun j hj => rfl)
      · cases hb
    · rename_i e ap n s i' l f hr
      have hR := hrow' _ hr
      simp only [RRow] at hR
      split at hb
      · rename_i hs hle hp
        simp only [Option.some.injEq, Prod.mk.injEq] at hb
        obtain ⟨rfl, rfl⟩ := hb
        have hii : i = i' := all1 hc
        subst hii
        have hfi : (bif Nat.beq i i then l else f i) = l := by rw [beqN]; simp
        have := stEl (N := N) (ops := ops) (ty := ty) (pos := pos) (af := af) (f := fun j => bif Nat.beq j i then l else f j) (f0 := f) hi hI hm hcl hone hlen hx hg hy hs hle hp (all2 hc) hR hr (fun j hj => by simp only [beqN, decide_eq_false hj, cond_false])
        simp only [hfi] at this
        exact this
      · cases hb
    · cases hb
  | _ => simp at hb

theorem xparts_ok {X : Cx} (hX : X.ok P) : ∀ {fs : List Field} {pl : List (Nat × Nat)}, xparts X fs = some pl → fs.mapM (fun f => (P.info? f.type).map fun i => (f.offset, i.size)) = some pl
  | [], pl, hp => by simp only [xparts, Option.some.injEq] at hp; subst hp; rfl
  | f :: fs, pl, hp => by
    simp only [xparts] at hp
    split at hp
    · rename_i z s b l hi hl
      simp only [Option.some.injEq] at hp
      subst hp
      obtain ⟨ti, h1, -, h3, -⟩ := (okI_fnd hX.I hi).get
      rw [List.mapM_cons, h1, xparts_ok hX hl]
      simp [h3]
    · cases hp

theorem xpartsV_ok {e : Operand → List Prop × XV} (ρ : Rho) (val : Operand → AV) : ∀ (l : List (Nat × Operand)), (∀ q ∈ l, (∀ p ∈ (e q.2).1, p) → RV ρ (e q.2).2 (val q.2)) → (∀ p ∈ (xpartsV e l).1, p) →
    (xpartsV e l).2 = l.map (fun q => (q.1, (e q.2).2.cells)) ∧ ∀ q ∈ l, RV ρ (e q.2).2 (val q.2)
  | [], _, _ => ⟨rfl, by simp⟩
  | (i, x) :: l, hv, hc => by
    simp only [xpartsV] at hc
    obtain ⟨h1, h2⟩ := xpartsV_ok ρ val l (fun q hq => hv q (by simp [hq])) (allR hc)
    refine ⟨by simp only [xpartsV, List.map_cons, h1], fun q hq => ?_⟩
    rcases List.mem_cons.1 hq with rfl | hq
    · exact hv (i, x) (by simp) (allL hc)
    · exact h2 q hq

theorem xlaid_ok {pl : List (Nat × Nat)} : ∀ (cells : List (Nat × List XV)) (avs : List (Nat × List AV)) (zs : List XV) (zs' : List AV) (out : List XV), xlaid pl zs cells = some out → RVL ρ zs zs' →
    avs.map (·.1) = cells.map (·.1) → (∀ (i : Nat) (p : Nat × List XV) (q : Nat × List AV), cells[i]? = some p → avs[i]? = some q → xones p.2 = true → RVL ρ p.2 q.2) →
    (∃ out', laid pl zs' avs = some out' ∧ RVL ρ out out') ∧ ∀ p ∈ cells, xones p.2 = true
  | [], [], zs, zs', out, hl, hz, _, _ => by
    simp only [xlaid, Option.some.injEq] at hl
    subst hl
    exact ⟨⟨zs', rfl, hz⟩, by simp⟩
  | (i, cs) :: cells, (i', ds) :: avs, zs, zs', out, hl, hz, hm, hp => by
    simp only [List.map_cons, List.cons.injEq] at hm
    obtain ⟨rfl, hm⟩ := hm
    simp only [xlaid, nth_eq] at hl
    split at hl
    · cases hl
    · rename_i off sz hpl
      split at hl
      · rename_i h1 h2 h3
        rw [beqN, decide_eq_true_eq, xlen_eq] at h1
        rw [bleN, decide_eq_true_eq, xlen_eq, xlen_eq] at h2
        have hv := hp 0 (i', cs) (i', ds) rfl rfl h3
        simp only at hv
        have e1 := hv.length
        have e2 := hz.length
        rw [xsplice_eq] at hl
        obtain ⟨⟨out', ho, hr⟩, hall⟩ := xlaid_ok cells avs _ (zs'.take off ++ ds ++ zs'.drop (off + ds.length)) out hl
          (by rw [List.append_assoc, ← e1]; exact (hz.take off).append (hv.append (hz.drop _))) hm (fun k p q a b => hp (k + 1) p q (by simpa using a) (by simpa using b))
        refine ⟨⟨out', ?_, hr⟩, fun p hp => by rcases List.mem_cons.1 hp with rfl | hp; exact h3; exact hall p hp⟩
        simp only [laid, hpl]
        rw [if_pos (by omega)]
        exact ho
      · cases hl
  | [], _ :: _, _, _, _, _, _, hm, _ => by simp at hm
  | _ :: _, [], _, _, _, _, _, hm, _ => by simp at hm

theorem zcells_ok (ρ : Rho) (z : Value) : RVL ρ (zcells z) (z.cells.toList.map AV.p) := by
  unfold zcells
  generalize z.cells.toList = l
  induction l with
  | nil => simp [RVL]
  | cons a l ih => simp only [List.map_cons, RVL]; exact ⟨RV.v _ _, ih⟩

theorem xbuild_ok {X : Cx} (hX : X.ok P) {T : TypeId} {parts : Array (Nat × Operand)} {fs : Array Field} {z : Value} {sz b : Nat} {pl : List (Nat × Nat)} {e : Operand → List Prop × XV} {out : List XV} (hu : fnd X.U T = some (.struct fs)) (hi : fnd X.I T = some (z, sz, b))
    (hp : xparts X fs.toList = some pl) (ho : xlaid pl (zcells z) (xpartsV e parts.toList).2 = some out) (hc : ∀ p ∈ (xpartsV e parts.toList).1, p)
    (hv : ∀ q ∈ parts.toList, (∀ p ∈ (e q.2).1, p) → RV ρ (e q.2).2 (val q.2)) (hd : dok N d = true) {tch : List Nat} : OpOk P N ops d ty pos af (.build T parts) ρ h rows val tch (.agg out) none := by
  obtain ⟨e1, e2⟩ := xpartsV_ok ρ val parts.toList hv hc
  rw [e1] at ho
  obtain ⟨⟨out', hl, hr⟩, hall⟩ := xlaid_ok (ρ := ρ) _ (parts.toList.map fun q => (q.1, (val q.2).cells)) _ _ _ ho (zcells_ok ρ z) (by simp) (by
    intro i p q h1 h2 h3
    rw [List.getElem?_map] at h1 h2
    cases hq : parts.toList[i]? with
    | none => rw [hq] at h1; cases h1
    | some o =>
      rw [hq] at h1 h2
      obtain rfl := Option.some.inj h1
      obtain rfl := Option.some.inj h2
      exact (RV.cells h3 (e2 o (List.mem_of_getElem? hq))).1)
  refine OpOk.pure (.agg out') (by simp only [RV]; exact ⟨_, rfl, hr⟩) fun t L ht Q os K => ?_
  have hop : ∀ q ∈ parts.toList, ev t q.2 = val q.2 := fun q hq => ht q.2 (by
    simp only [Op.operands]
    simpa using ⟨q.1, by simpa using hq⟩)
  have := JO.build (P := P) (N := N) (ops := ops) (Q := Q) (d := d) (ty := ty) (pos := pos) (af := af) (os := os) (t := t) (L := L) (T := T) (parts := parts.toList) (fs := fs) (pl := pl) (z := z) (zs := z.cells.toList.map AV.p) (out := out')
    (okU_fnd hX.U hu) (okI_fnd hX.I hi) (xparts_ok hX hp) rfl (fun p hp => by
      rw [hop p hp]
      exact (RV.cells (hall _ (List.mem_map_of_mem hp)) (e2 p hp)).2) (by
      rw [← hl]
      congr 1
      apply List.map_congr_left
      intro q hq
      rw [hop q hq]) hd K
  simpa using this
end
end Go.Proofs.YtljgkjkdmoejfaaAv
