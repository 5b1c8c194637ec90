/-
  SYMBOLIC RUNS over the model (own framework, part 17): each operation that makes no block does what its symbolic run says.
-/
import Derived.Test.YtljgkjkdmoejfaaAvXr
set_option linter.unusedVariables false
set_option linter.unusedSimpArgs false
namespace Go.Proofs.YtljgkjkdmoejfaaAv
open Go Go.RowKit

theorem all1 {a : Prop} {l : List Prop} (h : ∀ p ∈ a :: l, p) : a := h a (by simp)
theorem all2 {a b : Prop} {l : List Prop} (h : ∀ p ∈ a :: b :: l, p) : b := h b (by simp)
theorem all3 {a b c : Prop} {l : List Prop} (h : ∀ p ∈ a :: b :: c :: l, p) : c := h c (by simp)
theorem allL {k l : List Prop} (h : ∀ p ∈ k ++ l, p) : ∀ p ∈ k, p := fun p hp => h p (by simp [hp])
theorem allR {k l : List Prop} (h : ∀ p ∈ k ++ l, p) : ∀ p ∈ l, p := fun p hp => h p (by simp [hp])

/-- What is asked of a contract. -/
def CTok (P : Program) (f : FuncId) (C : CT) : Prop :=
  (∃ fn c, P.funcs[f]? = some fn ∧ fn.body = some c ∧ (fn.name == "runtime.NumGoroutine") = false) ∧
  ∀ args cs v, C args = some (cs, v) → (∀ p ∈ cs, p) → ∀ ρ bs, RVL ρ args bs → ∃ v', RV ρ v v' ∧ ∀ L, JF P f bs L (fun r L' => r = v' ∧ L' = L)

def HTok (P : Program) (f : FuncId) (H : HT) : Prop :=
  (∃ fn c, P.funcs[f]? = some fn ∧ fn.body = some c ∧ (fn.name == "runtime.NumGoroutine") = false) ∧
  ∀ cells rest cs v o, H cells rest = some (cs, v, o) → (∀ p ∈ cs, p) → ∀ ρ g row bs, RVL ρ cells row.cs → RVL ρ rest bs → ∃ v' row', RV ρ v v' ∧ (match o with | none => row' = row | some cells' => row'.e = row.e ∧ row'.ap = row.ap ∧ RVL ρ cells' row'.cs) ∧
    ∀ L, L g = some row → JF P f (.ptr g 0 :: bs) L (fun r L' => r = v' ∧ L' = upd L g row')
def NTok (P : Program) (f : FuncId) (T : TypeId) (M : NT) : Prop :=
  (∃ fn c, P.funcs[f]? = some fn ∧ fn.body = some c ∧ (fn.name == "runtime.NumGoroutine") = false) ∧
  ∀ args cs cells, M args = some (cs, cells) → (∀ p ∈ cs, p) → ∀ ρ bs, RVL ρ args bs → ∃ ds, RVL ρ cells ds ∧ ∀ L, JF P f bs L (fun r L' => ∃ g, L g = none ∧ r = .ptr g 0 ∧ L' = upd L g ⟨T, true, ds⟩)

/-- What is asked of a contract that may change what is told of memory. -/
def ITok (P : Program) (f : FuncId) (T : IT) : Prop :=
  (∃ fn c, P.funcs[f]? = some fn ∧ fn.body = some c ∧ (fn.name == "runtime.NumGoroutine") = false) ∧
  ∀ args S K, T args S K → ∀ F ρ t L bs, Rel F ρ S t L → RVL ρ args bs → JF P f bs L fun v L' => ∃ ρ' S' t' xv, Rel F ρ' S' t' L' ∧ RV ρ' xv v ∧ K xv S'

structure Cx.ok (P : Program) (X : Cx) : Prop where
  U : okU P X.U
  I : okI P X.I
  C : ∀ f C, fnd X.C f = some C → CTok P f C
  H : ∀ f H, fnd X.H f = some H → HTok P f H
  N : ∀ f T M, fnd X.N f = some (T, M) → NTok P f T M
  M : P.follows .mixedOrders = true
  L : ∀ f T, fnd X.L f = some T → ITok P f T
  E : okE P X.E

def touchX (e : Operand → List Prop × XV) : Op → List Nat
  | .load _ x => ptrId (e x).2
  | .store _ x _ => ptrId (e x).2
  | .slice _ x _ _ _ => ptrId (e x).2
  | .convert _ _ x => slId (e x).2
  | .call c => match c.args.toList with
    | x :: _ => ptrId (e x).2
    | [] => []
  | _ => []

def WRel (ρ : Rho) : Option (Nat × XRow) → Option (Nat × Row) → Prop
  | none, none => True
  | some (id, r), some (g, row) => ρ id = some (some g) ∧ RRow ρ r row
  | _, _ => False

theorem RV.v (ρ : Rho) (a : AV) : RV ρ (.v a) a := by simp [RV]

def OpOk (P : Program) (N : Nat) (ops : Array Oper) (d : Option Nat) (ty : TypeId) (pos : String) (af : Array Edge) (op : Op) (ρ : Rho) (h : List (Nat × XRow)) (rows : Nat → Row) (val : Operand → AV) (tch : List Nat) (v : XV) (w : Option (Nat × XRow)) : Prop :=
  ∃ v' W, RV ρ v v' ∧ WRel ρ w W ∧ ∀ t L, (∀ x ∈ op.operands.toList, ev t x = val x) → (∀ id ∈ tch, ∀ g, ρ id = some (some g) → (findR h id).isSome = true → L g = some (rows id)) →
    ∀ Q os, JO P N ops Q os (t.putO d v') (appW L W) → JO P N ops Q (⟨d, op, ty, pos, af, none⟩ :: os) t L

section
variable {P : Program} {N : Nat} {ops : Array Oper} {d : Option Nat} {ty : TypeId} {pos : String} {af : Array Edge} {op : Op} {ρ : Rho} {h : List (Nat × XRow)} {rows : Nat → Row} {val : Operand → AV} {tch : List Nat} {v : XV}

theorem OpOk.pure (v' : AV) (hr : RV ρ v v') (hj : ∀ t L, (∀ x ∈ op.operands.toList, ev t x = val x) → ∀ Q os, JO P N ops Q os (t.putO d v') L → JO P N ops Q (⟨d, op, ty, pos, af, none⟩ :: os) t L) :
    OpOk P N ops d ty pos af op ρ h rows val tch v none := ⟨v', none, hr, trivial, fun t L ht _ Q os k => hj t L ht Q os k⟩

/-- By its value alone. -/
theorem OpOk.fv (v' : AV) (hr : RV ρ v v') (hd : dok N d = true) (hf : ∀ t, (∀ x ∈ op.operands.toList, ev t x = val x) → YtljgkjkdmoejfaaAv.fv t op = some v') : OpOk P N ops d ty pos af op ρ h rows val tch v none :=
  OpOk.pure v' hr fun t L ht Q os k => JO.pure (hf t ht) hd k

theorem ibx_ok {bop : BinOp} {k k' : IntKind} {a b : Int} {cs : List Prop} {v : AV} (hi : ibx bop k k' a b = some (cs, v)) (hc : ∀ p ∈ cs, p) (t : TM) (T T' : TypeId) (x y : Operand) (hx : ev t x = .p (.int k a)) (hy : ev t y = .p (.int k' b)) :
    YtljgkjkdmoejfaaAv.fv t (.binOp bop T x y T') = some v := by
  have same : ∀ {z : AV}, kb k k' = true → bop ≠ .shl → bop ≠ .shr → ibin bop k a b = some z → YtljgkjkdmoejfaaAv.fv t (.binOp bop T x y T') = some z := by
    intro z hk h1 h2 hz
    have := kb_eq hk
    subst this
    simp only [YtljgkjkdmoejfaaAv.fv, hx, hy]
    cases bop <;> first | exact absurd rfl h1 | exact absurd rfl h2 | simpa using hz
  unfold ibx at hi
  cases bop with
  | shl =>
    simp only at hi
    split at hi <;> simp only [Option.some.injEq, Prod.mk.injEq, reduceCtorEq] at hi
    obtain ⟨-, rfl⟩ := hi
    simp only [YtljgkjkdmoejfaaAv.fv, hx, hy]; assumption
  | shr =>
    simp only at hi
    split at hi <;> simp only [Option.some.injEq, Prod.mk.injEq, reduceCtorEq] at hi
    obtain ⟨-, rfl⟩ := hi
    simp only [YtljgkjkdmoejfaaAv.fv, hx, hy]; assumption
  | add =>
    simp only at hi
    split at hi
    · simp only [Option.some.injEq, Prod.mk.injEq] at hi
      obtain ⟨rfl, rfl⟩ := hi
      have := all1 hc
      exact same rfl (by simp) (by simp) (by simp only [ibin]; rw [wrap64_in this.1 this.2])
    · split at hi <;> simp only [Option.some.injEq, Prod.mk.injEq, reduceCtorEq] at hi
      obtain ⟨-, rfl⟩ := hi
      exact same (by assumption) (by simp) (by simp) rfl
  | sub =>
    simp only at hi
    split at hi
    · simp only [Option.some.injEq, Prod.mk.injEq] at hi
      obtain ⟨rfl, rfl⟩ := hi
      have := all1 hc
      exact same rfl (by simp) (by simp) (by simp only [ibin]; rw [wrap64_in this.1 this.2])
    · split at hi <;> simp only [Option.some.injEq, Prod.mk.injEq, reduceCtorEq] at hi
      obtain ⟨-, rfl⟩ := hi
      exact same (by assumption) (by simp) (by simp) rfl
  | mul =>
    simp only at hi
    split at hi
    · simp only [Option.some.injEq, Prod.mk.injEq] at hi
      obtain ⟨rfl, rfl⟩ := hi
      have := all1 hc
      exact same rfl (by simp) (by simp) (by simp only [ibin]; rw [wrap64_in this.1 this.2])
    · split at hi <;> simp only [Option.some.injEq, Prod.mk.injEq, reduceCtorEq] at hi
      obtain ⟨-, rfl⟩ := hi
      exact same (by assumption) (by simp) (by simp) rfl
  | quo =>
    simp only at hi
    split at hi <;> simp only [Option.some.injEq, Prod.mk.injEq, reduceCtorEq] at hi
    obtain ⟨rfl, rfl⟩ := hi
    have := all1 hc
    exact same (by assumption) (by simp) (by simp) (by simp [ibin, this])
  | rem =>
    simp only at hi
    split at hi <;> simp only [Option.some.injEq, Prod.mk.injEq, reduceCtorEq] at hi
    obtain ⟨rfl, rfl⟩ := hi
    have := all1 hc
    exact same (by assumption) (by simp) (by simp) (by simp [ibin, this])
  | _ =>
    all_goals
      simp only at hi
      split at hi
      · split at hi <;> simp only [Option.some.injEq, Prod.mk.injEq, reduceCtorEq] at hi
        obtain ⟨-, rfl⟩ := hi
        exact same (by assumption) (by simp) (by simp) (by assumption)
      · cases hi

theorem vtake_eq : ∀ (n : Nat) (l : List Value), vtake n l = l.take n
  | 0, l => by simp [vtake]
  | n + 1, [] => by simp [vtake]
  | n + 1, x :: l => by simp [vtake, vtake_eq n l]
theorem vdrop_eq : ∀ (n : Nat) (l : List Value), vdrop n l = l.drop n
  | 0, l => by simp [vdrop]
  | n + 1, [] => by simp [vdrop]
  | n + 1, x :: l => by simp [vdrop, vdrop_eq n l]
theorem okE_mem {P : Program} : ∀ {l : List Nat} {T : Nat}, okE P l → memN T l = true → P.eqGuardType P.depth T = false ∧ P.stoodInHeld T = false ∧ (P.fieldsOf T).toList.all (fun f => f.name != "_") = true
  | [], T, _, h => by cases h
  | x :: l, T, hE, h => by
    simp only [memN, beqN, Bool.or_eq_true, decide_eq_true_eq] at h
    rcases h with rfl | h
    · exact hE.1
    · exact okE_mem hE.2 h
theorem andO_some {a b : Option Bool} {c : Bool} (h : andO a b = some c) : ∃ x y, a = some x ∧ b = some y ∧ c = (x && y) := by
  unfold andO at h
  split at h
  · exact ⟨_, _, rfl, rfl, (Option.some.inj h).symm⟩
  · cases h
/-- Two values of a type, of their cells, are the same just if so told. -/
def EqAt (P : Program) (w : World) (dd : Nat) (T : TypeId) (xs ys : List Value) (b : Bool) : Prop :=
  ∃ u, P.underlying T = some u ∧ ((aggT u = true ∧ (Op.equalIn dd T (.agg xs.toArray) (.agg ys.toArray)).run P w = .ok b w) ∨ (aggT u = false ∧ ∃ a c, xs = [a] ∧ ys = [c] ∧ (Op.equalIn dd T a c).run P w = .ok b w))
theorem take_one {l : List Value} {off s : Nat} {a : Value} (h : (l.drop off).take s = [a]) : l[off]? = some a := by
  have := congrArg (fun x : List Value => x[0]?) h
  simp only [List.getElem?_cons_zero, List.getElem?_take, List.getElem?_drop, Nat.add_zero] at this
  split at this
  · exact this
  · cases this
theorem EqAt.parts {P : Program} {w : World} {dd : Nat} {T : TypeId} {xs ys : List Value} {b : Bool} {off s bb : Nat} {z : Value} (h : EqAt P w dd T ((xs.drop off).take s) ((ys.drop off).take s) b) (hI : TI P T z s bb) :
    ∃ a c, (part T xs.toArray off).run P w = .ok a w ∧ (part T ys.toArray off).run P w = .ok c w ∧ (Op.equalIn dd T a c).run P w = .ok b w := by
  obtain ⟨u, hu, h | h⟩ := h
  · exact ⟨_, _, run_partA hu h.1 hI _ _, run_partA hu h.1 hI _ _, by rw [ext_list, ext_list]; exact h.2⟩
  · obtain ⟨ha, a, c, h1, h2, h3⟩ := h
    exact ⟨a, c, run_part1 hu ha (by simpa using take_one h1), run_part1 hu ha (by simpa using take_one h2), h3⟩
theorem eqFs_ok {P : Program} {w : World} {dd : Nat} {I : List (Nat × (Value × Nat × Nat))} (hI : okI P I) {E : TypeId → List Value → List Value → Option Bool} (hE : ∀ T xs ys b, E T xs ys = some b → EqAt P w dd T xs ys b) {xs ys : List Value} :
    ∀ (fs : List Field) (b : Bool), fs.all (fun f => f.name != "_") = true → eqFs E I xs ys fs = some b → (Op.eqFields dd xs.toArray ys.toArray fs).run P w = .ok b w
  | [], b, _, h => by
    simp only [eqFs, Option.some.injEq] at h
    subst h
    simp [Op.eqFields]
  | f :: fs, b, hn, h => by
    simp only [eqFs] at h
    split at h
    · rename_i z s bb hi
      obtain ⟨x, y, h1, h2, rfl⟩ := andO_some h
      rw [vtake_eq, vtake_eq, vdrop_eq, vdrop_eq] at h1
      simp only [List.all_cons, Bool.and_eq_true] at hn
      obtain ⟨a, c, k1, k2, k3⟩ := (hE _ _ _ _ h1).parts (okI_fnd hI hi)
      have ih := eqFs_ok hI hE fs y hn.2 h2
      have hne : f.name ≠ "_" := by simpa using hn.1
      unfold Op.eqFields
      rw [if_pos hne]
      simp only [Sem.run_bind, k1, k2, k3, Result.andThen_ok]
      cases x with
      | true => simpa using ih
      | false => simp
    · cases h
theorem eqAs_ok {E : List Value → List Value → Option Bool} {s : Nat} : ∀ (n : Nat) (xs ys : List Value) (b : Bool), eqAs E s n xs ys = some b →
    (∀ i, i < n → ∃ c, E ((xs.drop (i * s)).take s) ((ys.drop (i * s)).take s) = some c) ∧ (List.range n).all (fun i => (E ((xs.drop (i * s)).take s) ((ys.drop (i * s)).take s)).getD false) = b
  | 0, xs, ys, b, h => by
    simp only [eqAs, Option.some.injEq] at h
    subst h
    exact ⟨fun i hi => absurd hi (by omega), by simp⟩
  | n + 1, xs, ys, b, h => by
    simp only [eqAs] at h
    obtain ⟨x, y, h1, h2, rfl⟩ := andO_some h
    rw [vtake_eq, vtake_eq] at h1
    rw [vdrop_eq, vdrop_eq] at h2
    obtain ⟨k1, k2⟩ := eqAs_ok n _ _ _ h2
    have e : ∀ (l : List Value) (i : Nat), (l.drop s).drop (i * s) = l.drop ((i + 1) * s) := by
      intro l i
      rw [List.drop_drop, Nat.add_mul, Nat.one_mul, Nat.add_comm]
    refine ⟨fun i hi => ?_, ?_⟩
    · cases i with
      | zero => exact ⟨x, by simpa using h1⟩
      | succ i =>
        obtain ⟨c, hc⟩ := k1 i (by omega)
        rw [e, e] at hc
        exact ⟨c, hc⟩
    · rw [List.range_succ_eq_map, List.all_cons]
      congr 1
      · simp [h1]
      · rw [List.all_map, ← k2]
        congr 1
        funext i
        simp only [Function.comp, e]
theorem eqV_ok {P : Program} {X : Cx} (hU : okU P X.U) (hI : okI P X.I) (hE : okE P X.E) (w : World) (k : Nat) : ∀ (dd : Nat) (T : TypeId) (xs ys : List Value) (b : Bool), eqV X dd T xs ys = some b → EqAt P w (dd + k) T xs ys b
  | 0, T, xs, ys, b, h => by simp [eqV] at h
  | dd + 1, T, xs, ys, b, h => by
    have ih := eqV_ok hU hI hE w k dd
    rw [show dd + 1 + k = (dd + k) + 1 by omega]
    simp only [eqV] at h
    split at h
    · rename_i fs hu
      split at h
      · rename_i hm
        obtain ⟨-, h2, h3⟩ := okE_mem hE hm
        have hT := okU_fnd hU hu
        have hf : P.fieldsOf T = fs := by simp [Program.fieldsOf, hT]
        refine ⟨_, hT, .inl ⟨rfl, ?_⟩⟩
        rw [run_equalIn_struct w (dd + k) T _ _ (by rw [hf]; exact hT) h2]
        rw [hf] at h3 ⊢
        exact eqFs_ok hI ih fs.toList b h3 h
      · cases h
    · rename_i n e hu
      split at h
      · rename_i z s bb hi
        have hT := okU_fnd hU hu
        obtain ⟨h1, h2⟩ := eqAs_ok n xs ys b h
        refine ⟨_, hT, .inl ⟨rfl, ?_⟩⟩
        rw [← h2]
        refine run_eqArr (dd + k) hT (okI_fnd hI hi) _ _ _ fun i hi' => ?_
        obtain ⟨c, hc⟩ := h1 i hi'
        rw [hc]
        exact (ih _ _ _ _ hc).parts (okI_fnd hI hi)
      · cases h
    · rename_i u hn1 hn2 hu
      have hT := okU_fnd hU hu
      unfold eqLeaf at h
      split at h
      · obtain rfl := Option.some.inj h
        exact ⟨_, hT, .inr ⟨rfl, _, _, rfl, rfl, by simp [Op.equalIn, run_underlying hT]⟩⟩
      · split at h
        · rename_i hk
          obtain rfl := Option.some.inj h
          obtain rfl := kb_eq hk
          exact ⟨_, hT, .inr ⟨rfl, _, _, rfl, rfl, by simp [Op.equalIn, run_underlying hT]⟩⟩
        · cases h
      · obtain rfl := Option.some.inj h
        exact ⟨_, hT, .inr ⟨rfl, _, _, rfl, rfl, by simp [Op.equalIn, run_underlying hT]⟩⟩
      · cases h
    · cases h
theorem vX_ok {ρ : Rho} : ∀ {cs : List XV} {vs : List Value} {bs : List AV}, vX cs = some vs → RVL ρ cs bs → bs = vs.map AV.p
  | [], vs, [], h, _ => by simp only [vX, Option.some.injEq] at h; subst h; rfl
  | [], _, _ :: _, _, h => by simp [RVL] at h
  | c :: cs, vs, [], _, h => by simp [RVL] at h
  | c :: cs, vs, b :: bs, h, hr => by
    simp only [RVL] at hr
    unfold vX at h
    split at h
    · rename_i heq; cases heq
    · rename_i v l heq
      injection heq with e1 e2
      subst e1 e2
      split at h
      · rename_i r hl
        obtain rfl := Option.some.inj h
        have := hr.1
        simp only [RV] at this
        rw [this, vX_ok hl hr.2]
        rfl
      · cases h
    · cases h
theorem VSL_map_p {L : GH} {w : World} : ∀ {l : List Value} {xs : List Value}, VSL L w (l.map AV.p) xs → xs = l
  | [], [], _ => rfl
  | [], _ :: _, h => by simp [VSL] at h
  | _ :: _, [], h => by simp [VSL] at h
  | v :: l, x :: xs, h => by
    simp only [List.map_cons, VSL, VS] at h
    rw [h.1, VSL_map_p h.2]
/-- Two structs, two arrays, compared. -/
theorem JO.eqAgg {X : Cx} (hU : okU P X.U) (hI : okI P X.I) (hE : okE P X.E) {T T' : TypeId} {x y : Operand} {xs ys : List Value} {b : Bool} {ne : Bool} {t : TM} {L : GH} {Q : Exit → TM → GH → Prop} {os : List Oper} (hag : ∃ u, P.underlying T = some u ∧ aggT u = true) (hm : memN T X.E = true) (hx : ev t x = .agg (xs.map AV.p)) (hy : ev t y = .agg (ys.map AV.p))
    (hb : eqV X 8 T xs ys = some b) (hd : dok N d = true) (K : JO P N ops Q os (t.putO d (.p (.bool (if ne then !b else b)))) L) : JO P N ops Q (⟨d, .binOp (if ne then .neq else .eql) T x y T', ty, pos, af, none⟩ :: os) t L :=
  JO.still hd (fun a w s => by
    have e1 := s.ev x
    have e2 := s.ev y
    rw [hx] at e1
    rw [hy] at e2
    simp only [VS] at e1 e2
    obtain ⟨vs, e1, h1⟩ := e1
    obtain ⟨us, e2, h2⟩ := e2
    obtain rfl := VSL_map_p h1
    obtain rfl := VSL_map_p h2
    obtain ⟨hg, -, -⟩ := okE_mem hE hm
    obtain ⟨u, hu, hk⟩ := eqV_ok hU hI hE w 9992 8 T _ _ b hb
    have hrun : (Op.equalIn 10000 T (.agg vs.toArray) (.agg us.toArray)).run P w = .ok b w := by
      rcases hk with ⟨_, hk⟩ | ⟨ha, a, c, rfl, rfl, hk⟩
      · exact hk
      · obtain ⟨u', hu', ha'⟩ := hag
        rw [hu] at hu'
        obtain rfl := Option.some.inj hu'
        rw [ha] at ha'
        cases ha'
    have hgd : ∀ op, (eqGuard op T x y (.agg vs.toArray) (.agg us.toArray)).run P w = .ok () w := fun op => run_eqGuard_agg w op T x y _ _ hg
    refine ⟨.bool (if ne then !b else b), ?_, by simp [VS]⟩
    cases ne with
    | true => simp [execOp, e1, e2, hgd, run_neq_struct, hrun]
    | false => simp [execOp, e1, e2, hgd, run_eql_struct, hrun]) K

theorem aggB_ok {X : Cx} (hU : okU P X.U) {T : TypeId} {c : Bool} (h : aggB (fnd X.U T) = some c) : ∃ u, P.underlying T = some u ∧ aggT u = c := by
  unfold aggB at h
  split at h
  · rename_i u hu
    exact ⟨u, okU_fnd hU hu, Option.some.inj h⟩
  · cases h
theorem xbin_ok {X : Cx} (hX : okU P X.U) (hXI : okI P X.I) (hXE : okE P X.E) {bop : BinOp} {T T' : TypeId} {x y : Operand} {a b : XV} {cs : List Prop} (hb : xbin X bop T a b = some (cs, v)) (hc : ∀ p ∈ cs, p) (hx : RV ρ a (val x)) (hy : RV ρ b (val y)) (hd : dok N d = true) :
    OpOk P N ops d ty pos af (.binOp bop T x y T') ρ h rows val tch v none := by
  unfold xbin at hb
  split at hb
  · split at hb <;> simp only [Option.some.injEq, Prod.mk.injEq, reduceCtorEq] at hb
    obtain ⟨rfl, rfl⟩ := hb
    rename_i hi
    simp only [RV] at hx hy
    exact OpOk.fv _ (RV.v _ _) hd fun t ht => ibx_ok hi hc t T T' x y (by rw [ht x (by simp [Op.operands]), hx]) (by rw [ht y (by simp [Op.operands]), hy])
  · simp only [RV] at hx hy
    split at hb
    · simp only [Option.some.injEq, Prod.mk.injEq] at hb
      obtain ⟨rfl, rfl⟩ := hb
      exact OpOk.pure _ (RV.v _ _) fun t L ht Q os k => JO.cat (by rw [ht x (by simp [Op.operands]), hx]) (by rw [ht y (by simp [Op.operands]), hy]) hd (all1 hc) k
    · split at hb <;> simp only [Option.some.injEq, Prod.mk.injEq, reduceCtorEq] at hb
      obtain ⟨-, rfl⟩ := hb
      rename_i hs
      exact OpOk.fv _ (RV.v _ _) hd fun t ht => by simp only [YtljgkjkdmoejfaaAv.fv, ht x (by simp [Op.operands]), hx, ht y (by simp [Op.operands]), hy]; exact hs
  · simp only [RV] at hx hy
    split at hb <;> simp only [Option.some.injEq, Prod.mk.injEq, reduceCtorEq] at hb
    · obtain ⟨-, rfl⟩ := hb
      rename_i hB
      have hT : P.underlying T = some .bool := by
        unfold boolB at hB
        split at hB
        · rename_i hu; exact okU_fnd hX hu
        · cases hB
      exact OpOk.pure _ (RV.v _ _) fun t L ht Q os k => JO.eqBool hT (by rw [ht x (by simp [Op.operands]), hx]) (by rw [ht y (by simp [Op.operands]), hy]) hd k
    · obtain ⟨-, rfl⟩ := hb
      rename_i hB
      have hT : P.underlying T = some .bool := by
        unfold boolB at hB
        split at hB
        · rename_i hu; exact okU_fnd hX hu
        · cases hB
      exact OpOk.pure _ (RV.v _ _) fun t L ht Q os k => JO.neBool hT (by rw [ht x (by simp [Op.operands]), hx]) (by rw [ht y (by simp [Op.operands]), hy]) hd k
  · rename_i c1 c2
    simp only [RV] at hx hy
    obtain ⟨bs, hx, hr1⟩ := hx
    obtain ⟨ds, hy, hr2⟩ := hy
    split at hb
    · rename_i xs ys hag hm h1 h2
      rw [vX_ok h1 hr1] at hx
      rw [vX_ok h2 hr2] at hy
      have hag' := aggB_ok hX hag
      split at hb
      · rename_i b hb'
        simp only [Option.some.injEq, Prod.mk.injEq] at hb
        obtain ⟨-, rfl⟩ := hb
        exact OpOk.pure _ (RV.v _ _) fun t L ht Q os k => JO.eqAgg (ne := false) hX hXI hXE hag' hm (by rw [ht x (by simp [Op.operands]), hx]) (by rw [ht y (by simp [Op.operands]), hy]) hb' hd k
      · rename_i b hb'
        simp only [Option.some.injEq, Prod.mk.injEq] at hb
        obtain ⟨-, rfl⟩ := hb
        exact OpOk.pure _ (RV.v _ _) fun t L ht Q os k => JO.eqAgg (ne := true) hX hXI hXE hag' hm (by rw [ht x (by simp [Op.operands]), hx]) (by rw [ht y (by simp [Op.operands]), hy]) hb' hd k
      · cases hb
    · cases hb
  · cases hb

theorem RVL.getD' {cs : List XV} {bs : List AV} (hr : RVL ρ cs bs) (i : Nat) (hi : Nat.blt i (xlen cs) = true) : ∃ b, bs[i]? = some b ∧ RV ρ (xget cs i) b := by
  rw [bltN, decide_eq_true_eq, xlen_eq] at hi
  rw [xget_eq]
  exact hr.get i hi

theorem nthA {α : Type} (a : Array α) (i : Nat) (x : α) (hn : nth a.toList i = some x) : a[i]? = some x := by
  rw [nth_eq] at hn
  simpa using hn

theorem xfield_ok {X : Cx} (hX : X.ok P) {T : TypeId} {x : Operand} {i : Nat} {a : XV} (hb : xfield X T i a = some v) (hx : RV ρ a (val x)) (hd : dok N d = true) :
    OpOk P N ops d ty pos af (.fieldAddr T x i) ρ h rows val tch v none := by
  unfold xfield at hb
  split at hb
  · rename_i fs hu
    split at hb
    · rename_i f hf
      split at hb
      · rename_i z s b hi
        have hT := okU_fnd hX.U hu
        have hI := okI_fnd hX.I hi
        split at hb
        · simp only [Option.some.injEq] at hb
          subst hb
          simp only [RV] at hx
          obtain ⟨g, hg, hx⟩ := hx
          exact OpOk.pure _ (by simp only [RV]; exact ⟨g, hg, rfl⟩) fun t L ht Q os k => JO.fieldAddr hT (nthA fs i f hf) hI (by rw [ht x (by simp [Op.operands]), hx]) hd (by rw [Nat.add_assoc]; exact k)
        · simp only [Option.some.injEq] at hb
          subst hb
          rename_i cs
          simp only [RV] at hx
          obtain ⟨ds, hx⟩ := hx
          refine OpOk.pure (.fp ((toAVL cs ++ ds).drop f.offset)) ?_ fun t L ht Q os k => JO.fieldFp hT (nthA fs i f hf) hI (by rw [ht x (by simp [Op.operands]), hx]) hd k
          simp only [RV]
          refine ⟨ds.drop (f.offset - (toAVL cs).length), ?_⟩
          rw [List.drop_append, xdrop_eq, toAVL_map, toAVL_map, List.map_drop]
        · cases hb
      · cases hb
    · cases hb
  · cases hb

theorem xfieldV_ok {X : Cx} (hX : X.ok P) {T : TypeId} {x : Operand} {i : Nat} {a : XV} (hb : xfieldV X T i a = some v) (hx : RV ρ a (val x)) (hd : dok N d = true) :
    OpOk P N ops d ty pos af (.field T x i) ρ h rows val tch v none := by
  unfold xfieldV at hb
  split at hb
  · rename_i fs hu
    split at hb
    · rename_i f hf
      split at hb
      · rename_i cs ha
        split at hb
        · rename_i hlt
          simp only [Option.some.injEq] at hb
          subst hb
          simp only [RV] at hx
          obtain ⟨bs, hx, hr⟩ := hx
          obtain ⟨b, hb, hv⟩ := hr.getD' f.offset hlt
          unfold aggB at ha
          split at ha
          · rename_i u hu2
            simp only [Option.some.injEq] at ha
            exact OpOk.pure b hv fun t L ht Q os k => JO.field (okU_fnd hX.U hu) (nthA fs i f hf) (okU_fnd hX.U hu2) (by cases u <;> simp_all [aggT]) (by rw [ht x (by simp [Op.operands]), hx]) hb hd k
          · cases ha
        · cases hb
      · rename_i cs ha
        split at hb
        · rename_i z s bb hi
          simp only [Option.some.injEq] at hb
          subst hb
          simp only [RV] at hx
          obtain ⟨bs, hx, hr⟩ := hx
          obtain ⟨u, hu2, hag⟩ := aggB_ok hX.U ha
          refine OpOk.pure (.agg ((bs.drop f.offset).take s)) ?_ fun t L ht Q os k => JO.fieldA (okU_fnd hX.U hu) (nthA fs i f hf) hu2 hag (okI_fnd hX.I hi) (by rw [ht x (by simp [Op.operands]), hx]) hd k
          simp only [RV]
          exact ⟨_, rfl, by rw [xtake_eq, xdrop_eq]; exact (hr.drop _).take _⟩
        · cases hb
      · cases hb
    · cases hb
  · cases hb

theorem drop_cells {cs : List XV} {ds : List AV} (k : Nat) : ∃ es, (toAVL cs ++ ds).drop k = toAVL (cs.drop k) ++ es :=
  ⟨ds.drop (k - (toAVL cs).length), by rw [List.drop_append, toAVL_map, toAVL_map, List.map_drop]⟩

theorem xindex_ok {X : Cx} (hX : X.ok P) {T : TypeId} {x y : Operand} {a : XV} {k : IntKind} {j : Int} {cs : List Prop} (hb : xindex X T a j = some (cs, v)) (hc : ∀ p ∈ cs, p) (hx : RV ρ a (val x)) (hy : RV ρ (.v (.p (.int k j))) (val y)) (hd : dok N d = true) :
    OpOk P N ops d ty pos af (.indexAddr T x y) ρ h rows val tch v none := by
  simp only [RV] at hy
  have key : ∀ {α : Type} {a b : α}, a = b → b = a := fun h => h.symm
  unfold xindex at hb
  split at hb
  · -- own slice
    rename_i id sz off n
    split at hb
    · rename_i el hu
      split at hb
      · rename_i z s b hi
        split at hb
        · rename_i s' hs
          simp only [Option.some.injEq, Prod.mk.injEq] at hb
          obtain ⟨rfl, rfl⟩ := hb
          have h0 : 0 ≤ j := all1 hc
          have h1 : j < n := all2 hc
          rw [beqN, decide_eq_true_eq] at hs
          subst hs
          simp only [RV] at hx
          rcases hx with ⟨g, hg, hx⟩ | ⟨_, hn, _⟩
          · refine OpOk.pure _ (by simp only [RV]; exact ⟨g, hg, rfl⟩) fun t L ht Q os K => R.idxSl (okU_fnd hX.U hu) (okI_fnd hX.I hi) (by rw [ht x (by simp [Op.operands]), hx]) (by rw [ht y (by simp [Op.operands]), hy]) hd h0 h1 ?_
            rw [Nat.add_mul, Nat.add_zero] at K
            exact K
          · omega
        · cases hb
      · cases hb
    · cases hb
  · -- a slice that is only read
    rename_i n sz f
    split at hb
    · rename_i el hu
      split at hb
      · rename_i z s b hi
        split at hb
        · rename_i s' hs
          simp only [Option.some.injEq, Prod.mk.injEq] at hb
          obtain ⟨rfl, rfl⟩ := hb
          have h0 : 0 ≤ j := all1 hc
          have h1 : j < n := all2 hc
          rw [beqN, decide_eq_true_eq] at hs
          subst hs
          simp only [RV, toAV] at hx
          have hjn : j.toNat < n := by omega
          have hne : vecOf n (s' + 1) (fun i => toAVL (f i)) ≠ [] := by
            intro h
            have := congrArg List.length h
            rw [vecOf_length, List.length_nil] at this
            rcases Nat.mul_eq_zero.1 this with h | h <;> omega
          refine OpOk.pure (.fp ((vecOf n (s' + 1) fun i => toAVL (f i)).drop (j.toNat * (s' + 1)))) ?_ fun t L ht Q os K => R.idxFz (okU_fnd hX.U hu) (okI_fnd hX.I hi) (by rw [ht x (by simp [Op.operands]), hx]) (by rw [ht y (by simp [Op.operands]), hy]) hd h0 h1 hne K
          simp only [RV]
          refine ⟨((vecOf n (s' + 1) fun i => toAVL (f i)).drop (j.toNat * (s' + 1))).drop (s' + 1), ?_⟩
          congr 1
          conv => lhs; rw [← List.take_append_drop (s' + 1) ((vecOf n (s' + 1) fun i => toAVL (f i)).drop (j.toNat * (s' + 1)))]
          congr 1
          have := vecOf_seg (n := n) (sz := s' + 1) (g := fun i => toAVL (f i)) (i := j.toNat) (o := 0) (m := s' + 1) hjn (by omega)
          simp only [Nat.add_zero] at this
          rw [this, xel_eq]
          simp only [toAVL_map, List.map_map]
          apply List.map_congr_left
          intro o _
          simp only [Function.comp, Nat.zero_add]
          by_cases ho : o < (f j.toNat).length
          · simp [List.getD_eq_getElem?_getD, List.getElem?_eq_getElem ho]
          · simp [List.getD_eq_getElem?_getD, List.getElem?_eq_none (Nat.le_of_not_lt ho), toAV]
        · cases hb
      · cases hb
    · cases hb
  · -- an array of one's own
    rename_i id sz i o
    split at hb
    · rename_i n el hu
      split at hb
      · rename_i z s b hi
        split at hb
        · split at hb
          · split at hb
            · simp only [Option.some.injEq, Prod.mk.injEq] at hb
              obtain ⟨rfl, rfl⟩ := hb
              simp only [RV] at hx
              obtain ⟨g, hg, hx⟩ := hx
              refine OpOk.pure _ (by simp only [RV]; exact ⟨g, hg, rfl⟩) fun t L ht Q os K => JO.idxArr (okU_fnd hX.U hu) (okI_fnd hX.I hi) (by rw [ht x (by simp [Op.operands]), hx]) (by rw [ht y (by simp [Op.operands]), hy]) hd (all1 hc) (all2 hc) ?_
              rw [Nat.zero_mul, Nat.zero_add, Nat.add_comm o]
              exact K
            · cases hb
          · simp only [Option.some.injEq, Prod.mk.injEq] at hb
            obtain ⟨rfl, rfl⟩ := hb
            simp only [RV] at hx
            obtain ⟨g, hg, hx⟩ := hx
            refine OpOk.pure _ (by simp only [RV]; exact ⟨g, hg, rfl⟩) fun t L ht Q os K => JO.idxArr (okU_fnd hX.U hu) (okI_fnd hX.I hi) (by rw [ht x (by simp [Op.operands]), hx]) (by rw [ht y (by simp [Op.operands]), hy]) hd (all1 hc) (all2 hc) ?_
            rw [Nat.add_assoc]
            exact K
        · split at hb
          · rename_i hs
            simp only [Option.some.injEq, Prod.mk.injEq] at hb
            obtain ⟨rfl, rfl⟩ := hb
            rw [beqN, decide_eq_true_eq] at hs
            subst hs
            simp only [RV] at hx
            obtain ⟨g, hg, hx⟩ := hx
            refine OpOk.pure _ (by simp only [RV]; exact ⟨g, hg, rfl⟩) fun t L ht Q os K => JO.idxArr (okU_fnd hX.U hu) (okI_fnd hX.I hi) (by rw [ht x (by simp [Op.operands]), hx]) (by rw [ht y (by simp [Op.operands]), hy]) hd (all1 hc) (all2 hc) ?_
            rw [Nat.add_mul, Nat.add_zero] at K
            exact K
          · simp only [Option.some.injEq, Prod.mk.injEq] at hb
            obtain ⟨rfl, rfl⟩ := hb
            simp only [RV] at hx
            obtain ⟨g, hg, hx⟩ := hx
            refine OpOk.pure _ (by simp only [RV]; exact ⟨g, hg, rfl⟩) fun t L ht Q os K => JO.idxArr (okU_fnd hX.U hu) (okI_fnd hX.I hi) (by rw [ht x (by simp [Op.operands]), hx]) (by rw [ht y (by simp [Op.operands]), hy]) hd (all1 hc) (all2 hc) ?_
            rw [Nat.add_assoc]
            exact K
      · cases hb
    · cases hb
  · -- an array that is only read
    rename_i ds
    split at hb
    · rename_i n el hu
      split at hb
      · rename_i z b hi
        split at hb
        case h_2 => cases hb
        rename_i hble
        rw [bleN, decide_eq_true_eq, xlen_eq] at hble
        simp only [Option.some.injEq, Prod.mk.injEq] at hb
        obtain ⟨rfl, rfl⟩ := hb
        simp only [RV] at hx
        obtain ⟨es, hx⟩ := hx
        have h0 : 0 ≤ j := all1 hc
        refine OpOk.pure (.fp ((toAVL ds ++ es).drop (j.toNat * 1))) ?_ fun t L ht Q os K => JO.idxArrFp (okU_fnd hX.U hu) (okI_fnd hX.I hi) (by rw [ht x (by simp [Op.operands]), hx]) (by rw [ht y (by simp [Op.operands]), hy]) hd (all1 hc) (all2 hc) K
        simp only [RV, xtake_eq]
        intro hlt
        rw [List.length_take] at hlt
        refine ⟨((toAVL ds ++ es).drop j.toNat).drop (toAVL ((ds.take n).drop j.toNat)).length, ?_⟩
        congr 1
        rw [Nat.mul_one]
        conv => lhs; rw [← List.take_append_drop (toAVL ((ds.take n).drop j.toNat)).length ((toAVL ds ++ es).drop j.toNat)]
        congr 1
        rw [toAVL_map, toAVL_map, List.length_map, List.drop_append, List.take_append]
        rw [List.length_drop, List.length_take]
        have : min n ds.length - j.toNat - (List.drop j.toNat (ds.map toAV)).length = 0 := by
          rw [List.length_drop, List.length_map]; omega
        rw [this, List.take_zero, List.append_nil, List.drop_take, List.map_take, List.map_drop]
        congr 1
        omega
      · cases hb
    · cases hb
  · cases hb
end
end Go.Proofs.YtljgkjkdmoejfaaAv
