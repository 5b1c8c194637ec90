/-
  SYMBOLIC RUNS over the model (own framework, part 17): each operation that makes no block does what its symbolic run says.
-/
import Derived.Test.YtljgkjkdmoejfaaAvXr
set_option linter.unusedVariables false
set_option linter.unusedSimpArgs false
namespace Go.Proofs.YtljgkjkdmoejfaaAv
open Go Go.RowKit

theorem all1 {a : Prop} {l : List Prop} (h : ∀ p ∈ a :: l, p) : a := h a (by simp)
theorem all2 {a b : Prop} {l : List Prop} (h : ∀ p ∈ a :: b :: l, p) : b := h b (by simp)
theorem all3 {a b c : Prop} {l : List Prop} (h : ∀ p ∈ a :: b :: c :: l, p) : c := h c (by simp)
theorem allL {k l : List Prop} (h : ∀ p ∈ k ++ l, p) : ∀ p ∈ k, p := fun p hp => h p (by simp [hp])
theorem allR {k l : List Prop} (h : ∀ p ∈ k ++ l, p) : ∀ p ∈ l, p := fun p hp => h p (by simp [hp])

/-- What is asked of a contract. -/
def CTok (P : Program) (f : FuncId) (C : CT) : Prop :=
  (∃ fn c, P.funcs[f]? = some fn ∧ fn.body = some c ∧ (fn.name == "runtime.NumGoroutine") = false) ∧
  ∀ args cs v, C args = some (cs, v) → (∀ p ∈ cs, p) → ∀ ρ bs, RVL ρ args bs → ∃ v', RV ρ v v' ∧ ∀ L, JF P f bs L (fun r L' => r = v' ∧ L' = L)

def HTok (P : Program) (f : FuncId) (H : HT) : Prop :=
  (∃ fn c, P.funcs[f]? = some fn ∧ fn.body = some c ∧ (fn.name == "runtime.NumGoroutine") = false) ∧
  ∀ cells rest cs v o, H cells rest = some (cs, v, o) → (∀ p ∈ cs, p) → ∀ ρ g row bs, RVL ρ cells row.cs → RVL ρ rest bs → ∃ v' row', RV ρ v v' ∧ (match o with | none => row' = row | some cells' => row'.e = row.e ∧ row'.ap = row.ap ∧ RVL ρ cells' row'.cs) ∧
    ∀ L, L g = some row → JF P f (.ptr g 0 :: bs) L (fun r L' => r = v' ∧ L' = upd L g row')
def NTok (P : Program) (f : FuncId) (T : TypeId) (M : NT) : Prop :=
  (∃ fn c, P.funcs[f]? = some fn ∧ fn.body = some c ∧ (fn.name == "runtime.NumGoroutine") = false) ∧
  ∀ args cs cells, M args = some (cs, cells) → (∀ p ∈ cs, p) → ∀ ρ bs, RVL ρ args bs → ∃ ds, RVL ρ cells ds ∧ ∀ L, JF P f bs L (fun r L' => ∃ g, L g = none ∧ r = .ptr g 0 ∧ L' = upd L g ⟨T, true, ds⟩)

structure Cx.ok (P : Program) (X : Cx) : Prop where
  U : okU P X.U
  I : okI P X.I
  C : ∀ f C, fnd X.C f = some C → CTok P f C
  H : ∀ f H, fnd X.H f = some H → HTok P f H
  N : ∀ f T M, fnd X.N f = some (T, M) → NTok P f T M
  M : P.follows .mixedOrders = true

def touchX (e : Operand → List Prop × XV) : Op → List Nat
  | .load _ x => ptrId (e x).2
  | .store _ x _ => ptrId (e x).2
  | .call c => match c.args.toList with
    | x :: _ => ptrId (e x).2
    | [] => []
  | _ => []

def WRel (ρ : Rho) : Option (Nat × XRow) → Option (Nat × Row) → Prop
  | none, none => True
  | some (id, r), some (g, row) => ρ id = some (some g) ∧ RRow ρ r row
  | _, _ => False

theorem RV.v (ρ : Rho) (a : AV) : RV ρ (.v a) a := by simp [RV]

def OpOk (P : Program) (N : Nat) (ops : Array Oper) (d : Option Nat) (ty : TypeId) (pos : String) (af : Array Edge) (op : Op) (ρ : Rho) (h : List (Nat × XRow)) (rows : Nat → Row) (val : Operand → AV) (tch : List Nat) (v : XV) (w : Option (Nat × XRow)) : Prop :=
  ∃ v' W, RV ρ v v' ∧ WRel ρ w W ∧ ∀ t L, (∀ x ∈ op.operands.toList, ev t x = val x) → (∀ id ∈ tch, ∀ g, ρ id = some (some g) → (findR h id).isSome = true → L g = some (rows id)) →
    ∀ Q os, JO P N ops Q os (t.putO d v') (appW L W) → JO P N ops Q (⟨d, op, ty, pos, af, none⟩ :: os) t L

section
variable {P : Program} {N : Nat} {ops : Array Oper} {d : Option Nat} {ty : TypeId} {pos : String} {af : Array Edge} {op : Op} {ρ : Rho} {h : List (Nat × XRow)} {rows : Nat → Row} {val : Operand → AV} {tch : List Nat} {v : XV}

theorem OpOk.pure (v' : AV) (hr : RV ρ v v') (hj : ∀ t L, (∀ x ∈ op.operands.toList, ev t x = val x) → ∀ Q os, JO P N ops Q os (t.putO d v') L → JO P N ops Q (⟨d, op, ty, pos, af, none⟩ :: os) t L) :
    OpOk P N ops d ty pos af op ρ h rows val tch v none := ⟨v', none, hr, trivial, fun t L ht _ Q os k => hj t L ht Q os k⟩

/-- By its value alone. -/
theorem OpOk.fv (v' : AV) (hr : RV ρ v v') (hd : dok N d = true) (hf : ∀ t, (∀ x ∈ op.operands.toList, ev t x = val x) → YtljgkjkdmoejfaaAv.fv t op = some v') : OpOk P N ops d ty pos af op ρ h rows val tch v none :=
  OpOk.pure v' hr fun t L ht Q os k => JO.pure (hf t ht) hd k

theorem ibx_ok {bop : BinOp} {k k' : IntKind} {a b : Int} {cs : List Prop} {v : AV} (hi : ibx bop k k' a b = some (cs, v)) (hc : ∀ p ∈ cs, p) (t : TM) (T T' : TypeId) (x y : Operand) (hx : ev t x = .p (.int k a)) (hy : ev t y = .p (.int k' b)) :
    YtljgkjkdmoejfaaAv.fv t (.binOp bop T x y T') = some v := by
  have same : ∀ {z : AV}, kb k k' = true → bop ≠ .shl → bop ≠ .shr → ibin bop k a b = some z → YtljgkjkdmoejfaaAv.fv t (.binOp bop T x y T') = some z := by
    intro z hk h1 h2 hz
    have := kb_eq hk
    subst this
    simp only [YtljgkjkdmoejfaaAv.fv, hx, hy]
    cases bop <;> first | exact absurd rfl h1 | exact absurd rfl h2 | simpa using hz
  unfold ibx at hi
  cases bop with
  | shl =>
    simp only at hi
    split at hi <;> simp only [Option.some.injEq, Prod.mk.injEq, reduceCtorEq] at hi
    obtain ⟨-, rfl⟩ := hi
    simp only [YtljgkjkdmoejfaaAv.fv, hx, hy]; assumption
  | shr =>
    simp only at hi
    split at hi <;> simp only [Option.some.injEq, Prod.mk.injEq, reduceCtorEq] at hi
    obtain ⟨-, rfl⟩ := hi
    simp only [YtljgkjkdmoejfaaAv.fv, hx, hy]; assumption
  | add =>
    simp only at hi
    split at hi
    · simp only [Option.some.injEq, Prod.mk.injEq] at hi
      obtain ⟨rfl, rfl⟩ := hi
      have := all1 hc
      exact same rfl (by simp) (by simp) (by simp only [ibin]; rw [wrap64_in this.1 this.2])
    · split at hi <;> simp only [Option.some.injEq, Prod.mk.injEq, reduceCtorEq] at hi
      obtain ⟨-, rfl⟩ := hi
      exact same (by assumption) (by simp) (by simp) rfl
  | sub =>
    simp only at hi
    split at hi
    · simp only [Option.some.injEq, Prod.mk.injEq] at hi
      obtain ⟨rfl, rfl⟩ := hi
      have := all1 hc
      exact same rfl (by simp) (by simp) (by simp only [ibin]; rw [wrap64_in this.1 this.2])
    · split at hi <;> simp only [Option.some.injEq, Prod.mk.injEq, reduceCtorEq] at hi
      obtain ⟨-, rfl⟩ := hi
      exact same (by assumption) (by simp) (by simp) rfl
  | mul =>
    simp only at hi
    split at hi
    · simp only [Option.some.injEq, Prod.mk.injEq] at hi
      obtain ⟨rfl, rfl⟩ := hi
      have := all1 hc
      exact same rfl (by simp) (by simp) (by simp only [ibin]; rw [wrap64_in this.1 this.2])
    · split at hi <;> simp only [Option.some.injEq, Prod.mk.injEq, reduceCtorEq] at hi
      obtain ⟨-, rfl⟩ := hi
      exact same (by assumption) (by simp) (by simp) rfl
  | quo =>
    simp only at hi
    split at hi <;> simp only [Option.some.injEq, Prod.mk.injEq, reduceCtorEq] at hi
    obtain ⟨rfl, rfl⟩ := hi
    have := all1 hc
    exact same (by assumption) (by simp) (by simp) (by simp [ibin, this])
  | rem =>
    simp only at hi
    split at hi <;> simp only [Option.some.injEq, Prod.mk.injEq, reduceCtorEq] at hi
    obtain ⟨rfl, rfl⟩ := hi
    have := all1 hc
    exact same (by assumption) (by simp) (by simp) (by simp [ibin, this])
  | _ =>
    all_goals
      simp only at hi
      split at hi
      · split at hi <;> simp only [Option.some.injEq, Prod.mk.injEq, reduceCtorEq] at hi
        obtain ⟨-, rfl⟩ := hi
        exact same (by assumption) (by simp) (by simp) (by assumption)
      · cases hi

theorem xbin_ok {X : Cx} (hX : okU P X.U) {bop : BinOp} {T T' : TypeId} {x y : Operand} {a b : XV} {cs : List Prop} (hb : xbin X bop T a b = some (cs, v)) (hc : ∀ p ∈ cs, p) (hx : RV ρ a (val x)) (hy : RV ρ b (val y)) (hd : dok N d = true) :
    OpOk P N ops d ty pos af (.binOp bop T x y T') ρ h rows val tch v none := by
  unfold xbin at hb
  split at hb
  · split at hb <;> simp only [Option.some.injEq, Prod.mk.injEq, reduceCtorEq] at hb
    obtain ⟨rfl, rfl⟩ := hb
    rename_i hi
    simp only [RV] at hx hy
    exact OpOk.fv _ (RV.v _ _) hd fun t ht => ibx_ok hi hc t T T' x y (by rw [ht x (by simp [Op.operands]), hx]) (by rw [ht y (by simp [Op.operands]), hy])
  · simp only [RV] at hx hy
    split at hb
    · simp only [Option.some.injEq, Prod.mk.injEq] at hb
      obtain ⟨rfl, rfl⟩ := hb
      exact OpOk.pure _ (RV.v _ _) fun t L ht Q os k => JO.cat (by rw [ht x (by simp [Op.operands]), hx]) (by rw [ht y (by simp [Op.operands]), hy]) hd (all1 hc) k
    · split at hb <;> simp only [Option.some.injEq, Prod.mk.injEq, reduceCtorEq] at hb
      obtain ⟨-, rfl⟩ := hb
      rename_i hs
      exact OpOk.fv _ (RV.v _ _) hd fun t ht => by simp only [YtljgkjkdmoejfaaAv.fv, ht x (by simp [Op.operands]), hx, ht y (by simp [Op.operands]), hy]; exact hs
  · simp only [RV] at hx hy
    split at hb <;> simp only [Option.some.injEq, Prod.mk.injEq, reduceCtorEq] at hb
    · obtain ⟨-, rfl⟩ := hb
      rename_i hB
      have hT : P.underlying T = some .bool := by
        unfold boolB at hB
        split at hB
        · rename_i hu; exact okU_fnd hX hu
        · cases hB
      exact OpOk.pure _ (RV.v _ _) fun t L ht Q os k => JO.eqBool hT (by rw [ht x (by simp [Op.operands]), hx]) (by rw [ht y (by simp [Op.operands]), hy]) hd k
    · obtain ⟨-, rfl⟩ := hb
      rename_i hB
      have hT : P.underlying T = some .bool := by
        unfold boolB at hB
        split at hB
        · rename_i hu; exact okU_fnd hX hu
        · cases hB
      exact OpOk.pure _ (RV.v _ _) fun t L ht Q os k => JO.neBool hT (by rw [ht x (by simp [Op.operands]), hx]) (by rw [ht y (by simp [Op.operands]), hy]) hd k
  · cases hb

theorem RVL.getD' {cs : List XV} {bs : List AV} (hr : RVL ρ cs bs) (i : Nat) (hi : Nat.blt i (xlen cs) = true) : ∃ b, bs[i]? = some b ∧ RV ρ (xget cs i) b := by
  rw [bltN, decide_eq_true_eq, xlen_eq] at hi
  rw [xget_eq]
  exact hr.get i hi

theorem nthA {α : Type} (a : Array α) (i : Nat) (x : α) (hn : nth a.toList i = some x) : a[i]? = some x := by
  rw [nth_eq] at hn
  simpa using hn

theorem xfield_ok {X : Cx} (hX : X.ok P) {T : TypeId} {x : Operand} {i : Nat} {a : XV} (hb : xfield X T i a = some v) (hx : RV ρ a (val x)) (hd : dok N d = true) :
    OpOk P N ops d ty pos af (.fieldAddr T x i) ρ h rows val tch v none := by
  unfold xfield at hb
  split at hb
  · rename_i fs hu
    split at hb
    · rename_i f hf
      split at hb
      · rename_i z s b hi
        have hT := okU_fnd hX.U hu
        have hI := okI_fnd hX.I hi
        split at hb
        · simp only [Option.some.injEq] at hb
          subst hb
          simp only [RV] at hx
          obtain ⟨g, hg, hx⟩ := hx
          exact OpOk.pure _ (by simp only [RV]; exact ⟨g, hg, rfl⟩) fun t L ht Q os k => JO.fieldAddr hT (nthA fs i f hf) hI (by rw [ht x (by simp [Op.operands]), hx]) hd (by rw [Nat.add_assoc]; exact k)
        · simp only [Option.some.injEq] at hb
          subst hb
          rename_i cs
          simp only [RV] at hx
          obtain ⟨ds, hx⟩ := hx
          refine OpOk.pure (.fp ((toAVL cs ++ ds).drop f.offset)) ?_ fun t L ht Q os k => JO.fieldFp hT (nthA fs i f hf) hI (by rw [ht x (by simp [Op.operands]), hx]) hd k
          simp only [RV]
          refine ⟨ds.drop (f.offset - (toAVL cs).length), ?_⟩
          rw [List.drop_append, xdrop_eq, toAVL_map, toAVL_map, List.map_drop]
        · cases hb
      · cases hb
    · cases hb
  · cases hb

theorem xfieldV_ok {X : Cx} (hX : X.ok P) {T : TypeId} {x : Operand} {i : Nat} {a : XV} (hb : xfieldV X T i a = some v) (hx : RV ρ a (val x)) (hd : dok N d = true) :
    OpOk P N ops d ty pos af (.field T x i) ρ h rows val tch v none := by
  unfold xfieldV at hb
  split at hb
  · rename_i fs hu
    split at hb
    · rename_i f hf
      split at hb
      · rename_i cs ha
        split at hb
        · rename_i hlt
          simp only [Option.some.injEq] at hb
          subst hb
          simp only [RV] at hx
          obtain ⟨bs, hx, hr⟩ := hx
          obtain ⟨b, hb, hv⟩ := hr.getD' f.offset hlt
          unfold aggB at ha
          split at ha
          · rename_i u hu2
            simp only [Option.some.injEq] at ha
            exact OpOk.pure b hv fun t L ht Q os k => JO.field (okU_fnd hX.U hu) (nthA fs i f hf) (okU_fnd hX.U hu2) (by cases u <;> simp_all [aggT]) (by rw [ht x (by simp [Op.operands]), hx]) hb hd k
          · cases ha
        · cases hb
      · cases hb
    · cases hb
  · cases hb

theorem drop_cells {cs : List XV} {ds : List AV} (k : Nat) : ∃ es, (toAVL cs ++ ds).drop k = toAVL (cs.drop k) ++ es :=
  ⟨ds.drop (k - (toAVL cs).length), by rw [List.drop_append, toAVL_map, toAVL_map, List.map_drop]⟩

theorem xindex_ok {X : Cx} (hX : X.ok P) {T : TypeId} {x y : Operand} {a : XV} {k : IntKind} {j : Int} {cs : List Prop} (hb : xindex X T a j = some (cs, v)) (hc : ∀ p ∈ cs, p) (hx : RV ρ a (val x)) (hy : RV ρ (.v (.p (.int k j))) (val y)) (hd : dok N d = true) :
    OpOk P N ops d ty pos af (.indexAddr T x y) ρ h rows val tch v none := by
  simp only [RV] at hy
  have key : ∀ {α : Type} {a b : α}, a = b → b = a := fun h => h.symm
  unfold xindex at hb
  split at hb
  · -- own slice
    rename_i id sz off n
    split at hb
    · rename_i el hu
      split at hb
      · rename_i z s b hi
        split at hb
        · rename_i s' hs
          simp only [Option.some.injEq, Prod.mk.injEq] at hb
          obtain ⟨rfl, rfl⟩ := hb
          have h0 : 0 ≤ j := all1 hc
          have h1 : j < n := all2 hc
          rw [beqN, decide_eq_true_eq] at hs
          subst hs
          simp only [RV] at hx
          rcases hx with ⟨g, hg, hx⟩ | ⟨_, hn, _⟩
          · refine OpOk.pure _ (by simp only [RV]; exact ⟨g, hg, rfl⟩) fun t L ht Q os K => R.idxSl (okU_fnd hX.U hu) (okI_fnd hX.I hi) (by rw [ht x (by simp [Op.operands]), hx]) (by rw [ht y (by simp [Op.operands]), hy]) hd h0 h1 ?_
            rw [Nat.add_mul, Nat.add_zero] at K
            exact K
          · omega
        · cases hb
      · cases hb
    · cases hb
  · -- a slice that is only read
    rename_i n sz f
    split at hb
    · rename_i el hu
      split at hb
      · rename_i z s b hi
        split at hb
        · rename_i s' hs
          simp only [Option.some.injEq, Prod.mk.injEq] at hb
          obtain ⟨rfl, rfl⟩ := hb
          have h0 : 0 ≤ j := all1 hc
          have h1 : j < n := all2 hc
          rw [beqN, decide_eq_true_eq] at hs
          subst hs
          simp only [RV, toAV] at hx
          have hjn : j.toNat < n := by omega
          have hne : vecOf n (s' + 1) (fun i => toAVL (f i)) ≠ [] := by
            intro h
            have := congrArg List.length h
            rw [vecOf_length, List.length_nil] at this
            rcases Nat.mul_eq_zero.1 this with h | h <;> omega
          refine OpOk.pure (.fp ((vecOf n (s' + 1) fun i => toAVL (f i)).drop (j.toNat * (s' + 1)))) ?_ fun t L ht Q os K => R.idxFz (okU_fnd hX.U hu) (okI_fnd hX.I hi) (by rw [ht x (by simp [Op.operands]), hx]) (by rw [ht y (by simp [Op.operands]), hy]) hd h0 h1 hne K
          simp only [RV]
          refine ⟨((vecOf n (s' + 1) fun i => toAVL (f i)).drop (j.toNat * (s' + 1))).drop (s' + 1), ?_⟩
          congr 1
          conv => lhs; rw [← List.take_append_drop (s' + 1) ((vecOf n (s' + 1) fun i => toAVL (f i)).drop (j.toNat * (s' + 1)))]
          congr 1
          have := vecOf_seg (n := n) (sz := s' + 1) (g := fun i => toAVL (f i)) (i := j.toNat) (o := 0) (m := s' + 1) hjn (by omega)
          simp only [Nat.add_zero] at this
          rw [this, xel_eq]
          simp only [toAVL_map, List.map_map]
          apply List.map_congr_left
          intro o _
          simp only [Function.comp, Nat.zero_add]
          by_cases ho : o < (f j.toNat).length
          · simp [List.getD_eq_getElem?_getD, List.getElem?_eq_getElem ho]
          · simp [List.getD_eq_getElem?_getD, List.getElem?_eq_none (Nat.le_of_not_lt ho), toAV]
        · cases hb
      · cases hb
    · cases hb
  · -- an array of one's own
    rename_i id sz i o
    split at hb
    · rename_i n el hu
      split at hb
      · rename_i z s b hi
        split at hb
        · simp only [Option.some.injEq, Prod.mk.injEq] at hb
          obtain ⟨rfl, rfl⟩ := hb
          simp only [RV] at hx
          obtain ⟨g, hg, hx⟩ := hx
          refine OpOk.pure _ (by simp only [RV]; exact ⟨g, hg, rfl⟩) fun t L ht Q os K => JO.idxArr (okU_fnd hX.U hu) (okI_fnd hX.I hi) (by rw [ht x (by simp [Op.operands]), hx]) (by rw [ht y (by simp [Op.operands]), hy]) hd (all1 hc) (all2 hc) ?_
          rw [Nat.add_assoc]
          exact K
        · split at hb
          · rename_i hs
            simp only [Option.some.injEq, Prod.mk.injEq] at hb
            obtain ⟨rfl, rfl⟩ := hb
            rw [beqN, decide_eq_true_eq] at hs
            subst hs
            simp only [RV] at hx
            obtain ⟨g, hg, hx⟩ := hx
            refine OpOk.pure _ (by simp only [RV]; exact ⟨g, hg, rfl⟩) fun t L ht Q os K => JO.idxArr (okU_fnd hX.U hu) (okI_fnd hX.I hi) (by rw [ht x (by simp [Op.operands]), hx]) (by rw [ht y (by simp [Op.operands]), hy]) hd (all1 hc) (all2 hc) ?_
            rw [Nat.add_mul, Nat.add_zero] at K
            exact K
          · simp only [Option.some.injEq, Prod.mk.injEq] at hb
            obtain ⟨rfl, rfl⟩ := hb
            simp only [RV] at hx
            obtain ⟨g, hg, hx⟩ := hx
            refine OpOk.pure _ (by simp only [RV]; exact ⟨g, hg, rfl⟩) fun t L ht Q os K => JO.idxArr (okU_fnd hX.U hu) (okI_fnd hX.I hi) (by rw [ht x (by simp [Op.operands]), hx]) (by rw [ht y (by simp [Op.operands]), hy]) hd (all1 hc) (all2 hc) ?_
            rw [Nat.add_assoc]
            exact K
      · cases hb
    · cases hb
  · -- an array that is only read
    rename_i ds
    split at hb
    · rename_i n el hu
      split at hb
      · rename_i z b hi
        split at hb
        case h_2 => cases hb
        rename_i hble
        rw [bleN, decide_eq_true_eq, xlen_eq] at hble
        simp only [Option.some.injEq, Prod.mk.injEq] at hb
        obtain ⟨rfl, rfl⟩ := hb
        simp only [RV] at hx
        obtain ⟨es, hx⟩ := hx
        have h0 : 0 ≤ j := all1 hc
        refine OpOk.pure (.fp ((toAVL ds ++ es).drop (j.toNat * 1))) ?_ fun t L ht Q os K => JO.idxArrFp (okU_fnd hX.U hu) (okI_fnd hX.I hi) (by rw [ht x (by simp [Op.operands]), hx]) (by rw [ht y (by simp [Op.operands]), hy]) hd (all1 hc) (all2 hc) K
        simp only [RV, xtake_eq]
        intro hlt
        rw [List.length_take] at hlt
        refine ⟨((toAVL ds ++ es).drop j.toNat).drop (toAVL ((ds.take n).drop j.toNat)).length, ?_⟩
        congr 1
        rw [Nat.mul_one]
        conv => lhs; rw [← List.take_append_drop (toAVL ((ds.take n).drop j.toNat)).length ((toAVL ds ++ es).drop j.toNat)]
        congr 1
        rw [toAVL_map, toAVL_map, List.length_map, List.drop_append, List.take_append]
        rw [List.length_drop, List.length_take]
        have : min n ds.length - j.toNat - (List.drop j.toNat (ds.map toAV)).length = 0 := by
          rw [List.length_drop, List.length_map]; omega
        rw [this, List.take_zero, List.append_nil, List.drop_take, List.map_take, List.map_drop]
        congr 1
        omega
      · cases hb
    · cases hb
  · cases hb
end
end Go.Proofs.YtljgkjkdmoejfaaAv
