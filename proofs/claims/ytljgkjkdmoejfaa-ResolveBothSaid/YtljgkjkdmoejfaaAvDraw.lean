/-
  ABSTRACT VALUES over the model (own framework, part 12): regions whose order is drawn: what any order gives is what the text's order gives,
  as long as operations that touch the same slots, or the same own blocks, wait for each other.
-/
import Derived.Test.YtljgkjkdmoejfaaAvSt
set_option linter.unusedVariables false
set_option linter.unusedSimpArgs false
namespace Go.Proofs.YtljgkjkdmoejfaaAv
open Go Go.RowKit

/-- One operation: what is told of slots and blocks behind it. -/
def StepW (P : Program) (N : Nat) (ops : Array Oper) (o : Oper) (t : TM) (L : GH) (t' : TM) (L' : GH) : Prop := ∀ Q os, JO P N ops Q os t' L' → JO P N ops Q (o :: os) t L

def appW (L : GH) : Option (Nat × Row) → GH
  | none => L
  | some (g, r) => upd L g r

/-- Just these slots are told. -/
def rst : List Nat → TM → TM
  | [], _ => fun _ => .top
  | d :: l, t => (rst l t).put d (t d)
theorem rst_at (t : TM) (s : Nat) : ∀ ls : List Nat, rst ls t s = if ls.contains s then t s else .top
  | [] => rfl
  | d :: l => by
    simp only [rst, TM.put, rst_at t s l, List.contains_cons]
    by_cases h : s = d
    · subst h; simp
    · rw [if_neg h]
      have : (s == d) = false := by simpa using h
      rw [this, Bool.false_or]

/-- Behind one operation that was run: it has put one value, and left the rest of the frame. -/
theorem upon_frame {P : Program} {o : Oper} {a : Act} {w : World} {K K' : Act → World → Prop} {Q Q' : Exit → Act → World → Prop} (h : ∀ x w', K (a.put o.dst x) w' → K' (a.put o.dst x) w') (hd : ∀ d w', ¬ K ({ a with defers := d :: a.defers }.put o.dst undef) w')
    (hq : ∀ e a w, Q e a w → e = .normal) (hh : o.wp P a w K Q) : o.wp P a w K' Q' := by
  unfold Oper.wp at *
  generalize (execOp a.eval o).run P w = r at *
  cases r with
  | ok n w' =>
    cases n <;> simp only [Oper.upon] at hh ⊢
    case value v => exact h _ _ hh
    case skip => exact h _ _ hh
    case defer d => exact absurd hh (hd _ _)
    case enter f args =>
      exact Calls.mono hh (fun e w'' he => by
        cases e with
        | returned v => exact h _ _ he
        | panicked c => exact absurd (hq _ _ _ he) (by simp)
        | outgrown => obtain ⟨a, w, he⟩ := he; exact absurd (hq _ _ _ he) (by simp))
    case row r args => exact Rows.mono hh (fun _ _ he => h _ _ he)
  | halt x w' =>
    cases x <;> simp only [Oper.upon] at hh ⊢
    exact absurd (hq _ _ _ hh) (by simp)

section
variable {P : Program} {N : Nat} {ops : Array Oper}

/-- The run of one operation that is ready, in any frame that is told alike where it looks. -/
theorem stepW_run {Q' : Exit → Act → World → Prop} {o : Oper} {ls : List Nat} {t t1 : TM} {L L' : GH} {v : AV} {a : Act} {w : World} {K : Act → World → Prop} {i : Nat} (hi : ops[i]? = some o) (hdN : ∀ d, o.dst = some d → d < N)
    (h : StepW P N ops o (rst ls t) L ((rst ls t).putO o.dst v) L') (hag : ∀ s, ls.contains s = true → t1 s = t s) (s : Sim N t1 L a w)
    (hk : ∀ a' w', Sim N (t1.putO o.dst v) L' a' w' → Ext L w L' w' → K a' w') : wpOp P ops Q' i K a w := by
  have s1 : Sim N (rst ls t) L a w := ⟨fun j => by
    rw [rst_at]
    split
    · rename_i hc; rw [← hag j hc]; exact s.tm j
    · simp [VS], s.rows, s.size, s.df⟩
  have h1 := h (fun e t' L'' => e = .normal ∧ t' = (rst ls t).putO o.dst v ∧ L'' = L') [] (JO.nil ⟨rfl, rfl, rfl⟩) L w a w (Ext.refl _ _) s1
  unfold wpOp
  rw [hi]
  simp only
  unfold wpList at h1
  have lift : ∀ x w', LQ N L w (fun e t' L'' => e = .normal ∧ t' = (rst ls t).putO o.dst v ∧ L'' = L') .normal (a.put o.dst x) w' → K (a.put o.dst x) w' := by
    rintro x w' ⟨t', L'', s', x', _, rfl, rfl⟩
    refine hk _ _ ?_ x'
    have sx := s.ext x' s'.rows
    cases hd : o.dst with
    | none => rw [hd] at s'; exact sx
    | some d =>
      rw [hd] at s'
      refine sx.put d (hdN d hd) ?_
      have := s'.tm d
      simp only [TM.putO, TM.put_same] at this
      have hdl : d < a.tmps.size := by rw [s.size]; exact hdN d hd
      simpa [Act.put, Array.getD_eq_getD_getElem?, hdl] using this
  have noex : ∀ e a' w', LQ N L w (fun e t' L'' => e = .normal ∧ t' = (rst ls t).putO o.dst v ∧ L'' = L') e a' w' → e = .normal := by
    rintro e a' w' ⟨_, _, _, _, h2, _⟩
    exact h2
  split at h1
  · rename_i hw
    rw [if_pos hw]
    rcases h1 with h1 | ⟨_, a', w', h2⟩
    · refine .inl (upon_frame lift ?_ noex h1)
      rintro d w' ⟨t', L'', s', _⟩
      have := s'.df
      cases hdo : o.dst <;> simp [hdo, Act.put] at this
    · exact absurd (noex _ _ _ h2) (by simp)
  · rename_i hw
    rw [if_neg hw]
    exact lift undef w h1

end

section
variable (ops : Array Oper) (V : Nat → AV) (W : Nat → Option (Nat × Row)) (t : TM) (L : GH)

/-- The slots behind those of the first k operations that m lists. -/
def refT (m : Nat → Bool) : Nat → TM
  | 0 => t
  | k + 1 => if m k then (refT m k).putO ((ops[k]?).bind (·.dst)) (V k) else refT m k
def refL (m : Nat → Bool) : Nat → GH
  | 0 => L
  | k + 1 => if m k then appW (refL m k) (W k) else refL m k

variable {ops V W t L}

theorem putO_at (t : TM) (d : Option Nat) (v : AV) (s : Nat) : t.putO d v s = if d = some s then v else t s := by
  cases d with
  | none => rfl
  | some d =>
    simp only [TM.putO, TM.put]
    by_cases h : s = d
    · subst h; simp
    · rw [if_neg h, if_neg (fun e => h (Option.some.inj e).symm)]
theorem appW_at (L : GH) (W : Option (Nat × Row)) (b : Nat) : appW L W b = match W with | some (g, r) => if g = b then some r else L b | none => L b := by
  cases W with
  | none => rfl
  | some p =>
    obtain ⟨g, r⟩ := p
    simp only [appW, upd]
    by_cases h : b = g
    · subst h; simp
    · rw [if_neg h, if_neg (Ne.symm h)]

theorem refT_cong {m m' : Nat → Bool} {s : Nat} : ∀ k, (∀ j, j < k → (ops[j]?).bind (·.dst) = some s → m j = m' j) → refT ops V t m k s = refT ops V t m' k s
  | 0, _ => rfl
  | k + 1, h => by
    have ih := refT_cong (m := m) (m' := m') k fun j hj => h j (by omega)
    simp only [refT]
    by_cases hd : (ops[k]?).bind (·.dst) = some s
    · rw [h k (by omega) hd]
      split
      · rw [putO_at, putO_at, if_pos hd, if_pos hd]
      · exact ih
    · have e : ∀ (b : Bool) (T : TM), (if b then T.putO ((ops[k]?).bind (·.dst)) (V k) else T) s = T s := by
        intro b T
        split
        · rw [putO_at, if_neg hd]
        · rfl
      rw [e, e]; exact ih
theorem refL_cong {m m' : Nat → Bool} {b : Nat} : ∀ k, (∀ j, j < k → (W j).map (·.1) = some b → m j = m' j) → refL W L m k b = refL W L m' k b
  | 0, _ => rfl
  | k + 1, h => by
    have ih := refL_cong (m := m) (m' := m') k fun j hj => h j (by omega)
    simp only [refL]
    by_cases hd : (W k).map (·.1) = some b
    · rw [h k (by omega) hd]
      split
      · rw [appW_at, appW_at]
        cases hw : W k with
        | none => rw [hw] at hd; cases hd
        | some p => rw [hw] at hd; obtain ⟨g, r⟩ := p; obtain rfl := Option.some.inj hd; simp
      · exact ih
    · have e : ∀ (c : Bool) (T : GH), (if c then appW T (W k) else T) b = T b := by
        intro c T
        split
        · rw [appW_at]
          cases hw : W k with
          | none => rfl
          | some p =>
            obtain ⟨g, r⟩ := p
            rw [hw] at hd
            have : g ≠ b := fun e => hd (by rw [e]; rfl)
            simp [this]
        · rfl
      rw [e, e]; exact ih

theorem refT_upto {i : Nat} {s : Nat} : ∀ k, i ≤ k → refT ops V t (fun j => decide (j < i)) k s = refT ops V t (fun _ => true) i s
  | 0, h => by obtain rfl : i = 0 := by omega
               rfl
  | k + 1, h => by
    by_cases hk : i = k + 1
    · subst hk
      exact refT_cong _ fun j hj _ => by simp [hj]
    · simp only [refT]
      rw [if_neg (by simp; omega)]
      exact refT_upto k (by omega)
theorem refL_upto {i : Nat} {b : Nat} : ∀ k, i ≤ k → refL W L (fun j => decide (j < i)) k b = refL W L (fun _ => true) i b
  | 0, h => by obtain rfl : i = 0 := by omega
               rfl
  | k + 1, h => by
    by_cases hk : i = k + 1
    · subst hk
      exact refL_cong _ fun j hj _ => by simp [hj]
    · simp only [refL]
      rw [if_neg (by simp; omega)]
      exact refL_upto k (by omega)

/-- One more is listed, and none behind it that puts into its slot. -/
theorem refT_more {m : Nat → Bool} {i : Nat} (hm : m i = false) : ∀ k, i < k → (∀ j, i < j → j < k → (ops[j]?).bind (·.dst) = (ops[i]?).bind (·.dst) → (ops[i]?).bind (·.dst) ≠ none → m j = false) →
    refT ops V t (fun j => if j = i then true else m j) k = (refT ops V t m k).putO ((ops[i]?).bind (·.dst)) (V i)
  | 0, h, _ => by omega
  | k + 1, h, hl => by
    by_cases hk : k = i
    · subst hk
      simp only [refT, if_true, hm]
      have e : refT ops V t (fun j => if j = k then true else m j) k = refT ops V t m k := by
        funext s
        exact refT_cong _ fun j hj _ => by simp; omega
      rw [e]
      simp
    · have ih := refT_more hm k (by omega) fun j h1 h2 => hl j h1 (by omega)
      simp only [refT, if_neg hk]
      rw [ih]
      split
      · rename_i hmk
        funext s
        rw [putO_at, putO_at, putO_at, putO_at]
        by_cases h1 : (ops[k]?).bind (·.dst) = some s
        · rw [if_pos h1]
          by_cases h2 : (ops[i]?).bind (·.dst) = some s
          · have := hl k (by omega) (by omega) (h1.trans h2.symm) (by rw [h2]; simp)
            rw [hmk] at this; cases this
          · rw [if_neg h2, if_pos h1]
        · rw [if_neg h1]
          by_cases h2 : (ops[i]?).bind (·.dst) = some s
          · rw [if_pos h2, if_pos h2]
          · rw [if_neg h2, if_neg h2, if_neg h1]
      · rfl
theorem refL_more {m : Nat → Bool} {i : Nat} (hm : m i = false) : ∀ k, i < k → (∀ j, i < j → j < k → (W j).map (·.1) = (W i).map (·.1) → (W i).map (·.1) ≠ none → m j = false) →
    refL W L (fun j => if j = i then true else m j) k = appW (refL W L m k) (W i)
  | 0, h, _ => by omega
  | k + 1, h, hl => by
    by_cases hk : k = i
    · subst hk
      simp only [refL, if_true, hm]
      have e : refL W L (fun j => if j = k then true else m j) k = refL W L m k := by
        funext s
        exact refL_cong _ fun j hj _ => by simp; omega
      rw [e]
      simp
    · have ih := refL_more hm k (by omega) fun j h1 h2 => hl j h1 (by omega)
      simp only [refL, if_neg hk]
      rw [ih]
      split
      · rename_i hmk
        cases hwi : W i with
        | none => rfl
        | some p =>
          cases hwk : W k with
          | none => rfl
          | some q =>
            obtain ⟨g, r⟩ := p
            obtain ⟨g', r'⟩ := q
            have hne : g ≠ g' := by
              rintro rfl
              have := hl k (by omega) (by omega) (by rw [hwi, hwk]; rfl) (by rw [hwi]; simp)
              rw [hmk] at this; cases this
            exact upd_comm _ _ _ _ _ hne
      · rfl
theorem refL_dom {m : Nat → Bool} (hw : ∀ k g r, W k = some (g, r) → (L g).isSome = true) : ∀ k b, (refL W L m k b).isSome = (L b).isSome
  | 0, _ => rfl
  | k + 1, b => by
    have ih := refL_dom (m := m) hw k b
    simp only [refL]
    split
    · rw [appW_at]
      cases hk : W k with
      | none => exact ih
      | some p =>
        obtain ⟨g, r⟩ := p
        simp only
        split
        · rename_i e; subst e; rw [hw k g r hk]; rfl
        · exact ih
    · exact ih
end

/-- Does j wait for i? -/
def waits (ops : Array Oper) (j i : Nat) : Bool :=
  match ops[j]? with
  | some oj => oj.after.any fun e => Region.binds .any e && e.on == i
  | none => false

/-- The order that is asked of the operations: ann: the own blocks that each reads, and the one that it writes (numbers of a table). -/
def ordB (ops : Array Oper) (ann : List (List Nat × Option Nat)) : Bool :=
  ((List.range ops.size).all fun j => match ops[j]? with
    | some oj => (oj.after.all fun e => !Region.binds .any e || decide (e.on < j)) &&
      ((List.range j).all fun i => match ops[i]? with
        | some oi =>
          let ai := ann.getD i ([], none)
          let aj := ann.getD j ([], none)
          waits ops j i ||
          ((match oi.dst with | some d => !(oj.looksAt ops).contains d && oj.dst != some d | none => true) && (match oj.dst with | some d => !(oi.looksAt ops).contains d | none => true) &&
           (match ai.2 with | some g => !aj.1.contains g && aj.2 != some g | none => true) && (match aj.2 with | some g => !ai.1.contains g | none => true))
        | none => true)
    | none => true)

theorem ordB_spec {ops : Array Oper} {ann : List (List Nat × Option Nat)} (h : ordB ops ann = true) {i j : Nat} {oi oj : Oper} (hij : i < j) (hi : ops[i]? = some oi) (hj : ops[j]? = some oj) (hw : waits ops j i = false) :
    (∀ d, oi.dst = some d → (oj.looksAt ops).contains d = false ∧ oj.dst ≠ some d) ∧ (∀ d, oj.dst = some d → (oi.looksAt ops).contains d = false) ∧
    (∀ g, (ann.getD i ([], none)).2 = some g → (ann.getD j ([], none)).1.contains g = false ∧ (ann.getD j ([], none)).2 ≠ some g) ∧ (∀ g, (ann.getD j ([], none)).2 = some g → (ann.getD i ([], none)).1.contains g = false) := by
  have hjs : j < ops.size := (Array.getElem?_eq_some_iff.1 hj).1
  have h1 := List.all_eq_true.1 h j (List.mem_range.2 hjs)
  simp only [hj, Bool.and_eq_true] at h1
  have h2 := List.all_eq_true.1 h1.2 i (List.mem_range.2 hij)
  simp only [hi, hw, Bool.false_or, Bool.and_eq_true] at h2
  obtain ⟨⟨⟨a, b⟩, c⟩, d⟩ := h2
  refine ⟨fun x hx => ?_, fun x hx => ?_, fun x hx => ?_, fun x hx => ?_⟩
  · rw [hx] at a; simpa using a
  · rw [hx] at b; simpa using b
  · rw [hx] at c; simpa using c
  · rw [hx] at d; simpa using d
theorem ordB_back {ops : Array Oper} {ann : List (List Nat × Option Nat)} (h : ordB ops ann = true) {j : Nat} {oj : Oper} (hj : ops[j]? = some oj) : ∀ e ∈ oj.after, Region.binds .any e = true → e.on < j := by
  have hjs : j < ops.size := (Array.getElem?_eq_some_iff.1 hj).1
  have h1 := List.all_eq_true.1 h j (List.mem_range.2 hjs)
  simp only [hj, Bool.and_eq_true] at h1
  intro e he hb
  have := Array.all_eq_true'.1 h1.1 e he
  rw [hb] at this
  simpa using this
theorem waits_spec {ops : Array Oper} {j i : Nat} (h : waits ops j i = true) : ∃ oj, ops[j]? = some oj ∧ ∃ e ∈ oj.after, Region.binds .any e = true ∧ e.on = i := by
  unfold waits at h
  split at h
  · rename_i oj hj
    obtain ⟨e, he, hb⟩ := Array.any_eq_true'.1 h
    simp only [Bool.and_eq_true, beq_iff_eq] at hb
    exact ⟨oj, hj, e, he, hb.1, hb.2⟩
  · cases h

/-- How many are not listed yet. -/
def left (n : Nat) (listed : Array Bool) : Nat := ((List.range n).filter fun i => !listed.getD i true).length
theorem left_set {n i : Nat} {listed : Array Bool} (hs : listed.size = n) (hi : listed.getD i true = false) : left n (listed.setIfInBounds i true) < left n listed := by
  have hlt : i < n := by
    rcases Nat.lt_or_ge i n with h | h
    · exact h
    · simp [Array.getElem?_eq_none (hs ▸ h)] at hi
  unfold left
  have e : ((List.range n).filter fun j => !(listed.setIfInBounds i true).getD j true) = ((List.range n).filter fun j => !listed.getD j true).filter fun j => j != i := by
    rw [List.filter_filter]
    apply List.filter_congr
    intro j hj
    by_cases h : i = j
    · subst h
      simp [hs, hlt]
    · rw [getD_set_ne true h]
      have : (j != i) = true := by simpa using Ne.symm h
      rw [this, Bool.true_and]
  rw [e]
  refine List.length_filter_lt_length_iff_exists.2 ⟨i, ?_, by simp⟩
  rw [List.mem_filter]
  exact ⟨List.mem_range.2 hlt, by rw [hi]; rfl⟩

theorem getD_two {listed : Array Bool} {i : Nat} (hi : i < listed.size) : listed.getD i true = listed.getD i false := by simp [hi]

theorem draw_any {P : Program} {N : Nat} {ops : Array Oper} {ann : List (List Nat × Option Nat)} {tb : Nat → Nat} {V : Nat → AV} {W : Nat → Option (Nat × Row)} {t : TM} {L : GH} {Q : Exit → TM → GH → Prop} {L0 : GH} {w0 : World}
    (hB : ordB ops ann = true) (htb : ∀ k x y, x ∈ (ann.getD k ([], none)).1 ∨ (ann.getD k ([], none)).2 = some x → ∀ j, (y ∈ (ann.getD j ([], none)).1 ∨ (ann.getD j ([], none)).2 = some y) → tb x = tb y → x = y)
    (hN : ∀ (k : Nat) (o : Oper) (d : Nat), ops[k]? = some o → o.dst = some d → d < N) (hW : ∀ k, (W k).map (·.1) = (ann.getD k ([], none)).2.map tb) (hWL : ∀ k g r, W k = some (g, r) → (L g).isSome = true)
    (hS : ∀ k o, ops[k]? = some o → ∀ L', (∀ b, (L' b).isSome = (L b).isSome) → (∀ x ∈ (ann.getD k ([], none)).1, L' (tb x) = refL W L (fun _ => true) k (tb x)) → (∃ m, L' = refL W L m ops.size) →
      StepW P N ops o (rst (o.looksAt ops) (refT ops V t (fun _ => true) k)) L' ((rst (o.looksAt ops) (refT ops V t (fun _ => true) k)).putO o.dst (V k)) (appW L' (W k)))
    (hQ : Q .normal (refT ops V t (fun _ => true) ops.size) (refL W L (fun _ => true) ops.size)) :
    ∀ (fuel : Nat) (listed : Array Bool) (a : Act) (w : World), listed.size = ops.size → (∀ j oj, ops[j]? = some oj → listed.getD j false = true → ∀ e ∈ oj.after, Region.binds .any e = true → listed.getD e.on false = true) →
      left ops.size listed ≤ fuel → Sim N (refT ops V t (fun j => listed.getD j false) ops.size) (refL W L (fun j => listed.getD j false) ops.size) a w →
      Ext L0 w0 (refL W L (fun j => listed.getD j false) ops.size) w → wpAny P .any ops (LQ N L0 w0 Q) fuel listed a w := by
  have fin : ∀ (listed : Array Bool) (a : Act) (w : World), (∀ j, j < ops.size → listed.getD j false = true) → Sim N (refT ops V t (fun j => listed.getD j false) ops.size) (refL W L (fun j => listed.getD j false) ops.size) a w →
      Ext L0 w0 (refL W L (fun j => listed.getD j false) ops.size) w → LQ N L0 w0 Q .normal a w := by
    intro listed a w hall hs hx
    have e1 : refT ops V t (fun j => listed.getD j false) ops.size = refT ops V t (fun _ => true) ops.size := funext fun s => refT_cong _ fun j hj _ => hall j hj
    have e2 : refL W L (fun j => listed.getD j false) ops.size = refL W L (fun _ => true) ops.size := funext fun s => refL_cong _ fun j hj _ => hall j hj
    rw [e1, e2] at hs
    rw [e2] at hx
    exact ⟨_, _, hs, hx, hQ⟩
  have stuck : ∀ (listed : Array Bool), listed.size = ops.size → Region.ready .any ops listed = [] → ∀ j, j < ops.size → listed.getD j false = true := by
    intro listed hsz hr j
    induction j using Nat.strongRecOn with
    | _ j ih =>
      intro hj
      cases hl : listed.getD j false with
      | true => rfl
      | false =>
        exfalso
        have : j ∈ Region.ready .any ops listed := by
          rw [mem_ready]
          refine ⟨by rw [getD_two (hsz ▸ hj)]; exact hl, ops[j], by simp [hj], fun e he hb => ?_⟩
          have hlt := ordB_back hB (j := j) (by simp [hj]) e he hb
          exact ih e.on hlt (by omega)
        rw [hr] at this
        cases this
  intro fuel
  induction fuel with
  | zero =>
    intro listed a w hsz hcl hle hs hx
    have hall : ∀ j, j < ops.size → listed.getD j true = true := by
      intro j hj
      cases hl : listed.getD j true with
      | true => rfl
      | false =>
        have : j ∈ (List.range ops.size).filter fun i => !listed.getD i true := List.mem_filter.2 ⟨List.mem_range.2 hj, by rw [hl]; rfl⟩
        have := List.length_pos_of_mem this
        unfold left at hle
        omega
    refine ⟨?_, fin listed a w (fun j hj => by rw [← getD_two (hsz ▸ hj)]; exact hall j hj) hs hx⟩
    cases hr : Region.ready .any ops listed with
    | nil => rfl
    | cons i l =>
      have hi : i ∈ Region.ready .any ops listed := by rw [hr]; simp
      obtain ⟨h0, o, ho, _⟩ := mem_ready.1 hi
      rw [hall i (Array.getElem?_eq_some_iff.1 ho).1] at h0
      cases h0
  | succ fuel ih =>
    intro listed a w hsz hcl hle hs hx
    refine ⟨fun hr => fin listed a w (stuck listed hsz hr) hs hx, fun i hi => ?_⟩
    obtain ⟨h0, o, ho, hdeps⟩ := mem_ready.1 hi
    have hin : i < ops.size := (Array.getElem?_eq_some_iff.1 ho).1
    have h0f : listed.getD i false = false := by rw [← getD_two (hsz ▸ hin)]; exact h0
    -- who waits for i is not listed; whom i waits for is
    have w1 : ∀ j, waits ops j i = true → listed.getD j false = false := by
      intro j hw
      obtain ⟨oj, hj, e, he, hb, hon⟩ := waits_spec hw
      cases hl : listed.getD j false with
      | false => rfl
      | true =>
        have := hcl j oj hj hl e he hb
        rw [hon, h0f] at this
        cases this
    have w2 : ∀ j, waits ops i j = true → listed.getD j false = true := by
      intro j hw
      obtain ⟨oi, hoi, e, he, hb, hon⟩ := waits_spec hw
      obtain rfl : oi = o := Option.some.inj (hoi.symm.trans ho)
      rw [← hon]
      exact hdeps e he hb
    have dstE : ∀ {j s : Nat}, (ops[j]?).bind (·.dst) = some s → ∃ oj : Oper, ops[j]? = some oj ∧ oj.dst = some s := by
      intro j s h
      cases hj : ops[j]? with
      | none => rw [hj] at h; cases h
      | some oj => rw [hj] at h; exact ⟨oj, rfl, h⟩
    have hag : ∀ s, (o.looksAt ops).contains s = true → refT ops V t (fun j => listed.getD j false) ops.size s = refT ops V t (fun _ => true) i s := by
      intro s hsl
      rw [← refT_upto ops.size (by omega)]
      refine refT_cong _ fun j hj hd => ?_
      obtain ⟨oj, hoj, hdj⟩ := dstE hd
      rcases Nat.lt_trichotomy j i with h | h | h
      · simp only [h, decide_true]
        cases hw : waits ops i j with
        | true => exact w2 j hw
        | false =>
          have := (ordB_spec hB h hoj ho hw).1 s hdj
          rw [hsl] at this
          cases this.1
      · subst h
        simpa using h0f
      · have : decide (j < i) = false := by simp; omega
        rw [this]
        cases hw : waits ops j i with
        | true => exact w1 j hw
        | false =>
          have := (ordB_spec hB h ho hoj hw).2.1 s hdj
          rw [hsl] at this
          cases this
    have wmap : ∀ {j g}, (W j).map (·.1) = some g → ∃ y, (ann.getD j ([], none)).2 = some y ∧ tb y = g := by
      intro j g h
      rw [hW j] at h
      cases hy : (ann.getD j ([], none)).2 with
      | none => rw [hy] at h; cases h
      | some y => rw [hy] at h; exact ⟨y, rfl, Option.some.inj h⟩
    have opsE : ∀ {j}, j < ops.size → ∃ oj, ops[j]? = some oj := fun {j} hj => ⟨ops[j], by simp [hj]⟩
    have hagL : ∀ x ∈ (ann.getD i ([], none)).1, refL W L (fun j => listed.getD j false) ops.size (tb x) = refL W L (fun _ => true) i (tb x) := by
      intro x hx
      rw [← refL_upto ops.size (by omega)]
      refine refL_cong _ fun j hj hd => ?_
      obtain ⟨oj, hoj⟩ := opsE hj
      obtain ⟨y, hy, hyx⟩ := wmap hd
      obtain rfl : y = x := htb j y x (.inr hy) i (.inl hx) hyx
      have hc : (ann.getD i ([], none)).1.contains y = true := by simpa using hx
      rcases Nat.lt_trichotomy j i with h | h | h
      · simp only [h, decide_true]
        cases hw : waits ops i j with
        | true => exact w2 j hw
        | false =>
          have := (ordB_spec hB h hoj ho hw).2.2.1 y hy
          rw [hc] at this
          cases this.1
      · subst h
        simpa using h0f
      · have : decide (j < i) = false := by simp; omega
        rw [this]
        cases hw : waits ops j i with
        | true => exact w1 j hw
        | false =>
          have := (ordB_spec hB h ho hoj hw).2.2.2 y hy
          rw [hc] at this
          cases this
    refine stepW_run ho (hN i o · ho) (hS i o ho _ (refL_dom hWL _) hagL ⟨_, rfl⟩) hag hs fun a' w' s' x' => ?_
    have hm' : (fun j => (listed.setIfInBounds i true).getD j false) = fun j => if j = i then true else listed.getD j false := by
      funext j
      by_cases h : j = i
      · subst h; simp [hsz, hin]
      · rw [getD_set_ne false (Ne.symm h), if_neg h]
    have hd0 : (ops[i]?).bind (·.dst) = o.dst := by rw [ho]; rfl
    have eT : refT ops V t (fun j => (listed.setIfInBounds i true).getD j false) ops.size = (refT ops V t (fun j => listed.getD j false) ops.size).putO o.dst (V i) := by
      rw [hm', refT_more h0f ops.size hin, hd0]
      intro j h1 h2 hd hne
      rw [hd0] at hd hne
      cases hdo : o.dst with
      | none => exact absurd hdo hne
      | some d =>
        rw [hdo] at hd
        obtain ⟨oj, hoj, hdj⟩ := dstE hd
        cases hw : waits ops j i with
        | true => exact w1 j hw
        | false => exact absurd hdj ((ordB_spec hB h1 ho hoj hw).1 d hdo).2
    have eL : refL W L (fun j => (listed.setIfInBounds i true).getD j false) ops.size = appW (refL W L (fun j => listed.getD j false) ops.size) (W i) := by
      rw [hm', refL_more h0f ops.size hin]
      intro j h1 h2 hd hne
      cases hwi : (W i).map (·.1) with
      | none => exact absurd hwi hne
      | some g =>
        rw [hwi] at hd
        obtain ⟨x, hx, hxg⟩ := wmap hwi
        obtain ⟨y, hy, hyg⟩ := wmap hd
        obtain rfl : y = x := htb j y x (.inr hy) i (.inr hx) (hyg.trans hxg.symm)
        obtain ⟨oj, hoj⟩ := opsE h2
        cases hw : waits ops j i with
        | true => exact w1 j hw
        | false => exact absurd hy ((ordB_spec hB h1 ho hoj hw).2.2.1 y hx).2
    refine ih _ a' w' (by simp [hsz]) ?_ (by have := left_set hsz h0; omega) (by rw [eT, eL]; exact s') (by rw [eL]; exact hx.trans x')
    intro j oj hj hl e he hb
    by_cases hij : i = j
    · subst hij
      obtain rfl : oj = o := Option.some.inj (hj.symm.trans ho)
      exact getD_set_true (hdeps e he hb)
    · rw [getD_set_ne false hij] at hl
      exact getD_set_true (hcl j oj hj hl e he hb)

theorem refT_V {ops : Array Oper} {V V' : Nat → AV} {t : TM} {m : Nat → Bool} : ∀ k, (∀ j, j < k → V j = V' j) → refT ops V t m k = refT ops V' t m k
  | 0, _ => rfl
  | k + 1, h => by simp only [refT]; rw [refT_V k fun j hj => h j (by omega), h k (by omega)]
theorem refL_W {W W' : Nat → Option (Nat × Row)} {L : GH} {m : Nat → Bool} : ∀ k, (∀ j, j < k → W j = W' j) → refL W L m k = refL W' L m k
  | 0, _ => rfl
  | k + 1, h => by simp only [refL]; rw [refL_W k fun j hj => h j (by omega), h k (by omega)]

/-- The operations of a region whose order is drawn, in the text's order, each told of just the slots where it looks. -/
def JD (P : Program) (N : Nat) (ops : Array Oper) (tb : Nat → Nat) (D : GH) : List Oper → List (List Nat × Option Nat) → TM → GH → (TM → GH → Prop) → Prop
  | [], _, t, L, K => K t L
  | o :: os, ann, t, L, K => ∃ v W, W.map (·.1) = (ann.headD ([], none)).2.map tb ∧
      (∀ L', (∀ b, (L' b).isSome = (D b).isSome) → (∀ x ∈ (ann.headD ([], none)).1, L' (tb x) = L (tb x)) → StepW P N ops o (rst (o.looksAt ops) t) L' ((rst (o.looksAt ops) t).putO o.dst v) (appW L' W)) ∧
      JD P N ops tb D os ann.tail (t.putO o.dst v) (appW L W) K

theorem JD_spec {P : Program} {N : Nat} {ops : Array Oper} {tb : Nat → Nat} {D L : GH} {t : TM} {ann : List (List Nat × Option Nat)} {K : TM → GH → Prop} : ∀ (l : List Oper) (k : Nat) (V0 : Nat → AV) (W0 : Nat → Option (Nat × Row)), (∀ j, l[j]? = ops[k + j]?) →
    JD P N ops tb D l (ann.drop k) (refT ops V0 t (fun _ => true) k) (refL W0 L (fun _ => true) k) K →
    ∃ V W, (∀ j, j < k ∨ k + l.length ≤ j → V j = V0 j ∧ W j = W0 j) ∧ (∀ j, k ≤ j → j < k + l.length → (W j).map (·.1) = (ann.getD j ([], none)).2.map tb) ∧
      (∀ j o, k ≤ j → ops[j]? = some o → ∀ L', (∀ b, (L' b).isSome = (D b).isSome) → (∀ x ∈ (ann.getD j ([], none)).1, L' (tb x) = refL W L (fun _ => true) j (tb x)) →
        StepW P N ops o (rst (o.looksAt ops) (refT ops V t (fun _ => true) j)) L' ((rst (o.looksAt ops) (refT ops V t (fun _ => true) j)).putO o.dst (V j)) (appW L' (W j))) ∧
      K (refT ops V t (fun _ => true) (k + l.length)) (refL W L (fun _ => true) (k + l.length))
  | [], k, V0, W0, hl, h => by
    refine ⟨V0, W0, fun _ _ => ⟨rfl, rfl⟩, fun j h1 h2 => by simp at h2; omega, fun j o h1 h2 => ?_, h⟩
    have := hl (j - k)
    rw [show k + (j - k) = j by omega, h2] at this
    simp at this
  | o :: l, k, V0, W0, hl, h => by
    obtain ⟨v, w, hw, hs, hk⟩ := h
    have h0 : ops[k]? = some o := by simpa using (hl 0).symm
    have hd : (ann.drop k).headD ([], none) = ann.getD k ([], none) := by
      rw [List.getD_eq_getElem?_getD, ← List.head?_drop]
      cases ann.drop k <;> rfl
    rw [hd] at hw hs
    have hV : ∀ j, j < k → (fun j => if j = k then v else V0 j) j = V0 j := fun j hj => by simp; omega
    have hWw : ∀ j, j < k → (fun j => if j = k then w else W0 j) j = W0 j := fun j hj => by simp; omega
    have eT : refT ops (fun j => if j = k then v else V0 j) t (fun _ => true) (k + 1) = (refT ops V0 t (fun _ => true) k).putO o.dst v := by
      simp only [refT, if_true, h0, Option.bind_some]
      rw [refT_V k hV]
    have eL : refL (fun j => if j = k then w else W0 j) L (fun _ => true) (k + 1) = appW (refL W0 L (fun _ => true) k) w := by
      simp only [refL, if_true]
      rw [refL_W k hWw]
    rw [List.tail_drop] at hk
    rw [← eT, ← eL] at hk
    obtain ⟨V, W, h1, h2, h3, h4⟩ := JD_spec l (k + 1) _ _ (fun j => by have := hl (j + 1); simpa [Nat.add_assoc, Nat.add_comm 1 j] using this) hk
    have hVk : V k = v := by have := (h1 k (.inl (by omega))).1; simpa using this
    have hWk : W k = w := by have := (h1 k (.inl (by omega))).2; simpa using this
    have hVb : ∀ j, j < k → V0 j = V j := fun j hj => by
      have := (h1 j (.inl (by omega))).1
      rw [this]; simp; omega
    have hWb : ∀ j, j < k → W0 j = W j := fun j hj => by
      have := (h1 j (.inl (by omega))).2
      rw [this]; simp; omega
    refine ⟨V, W, fun j hj => ?_, fun j hj hj2 => ?_, fun j oj hj hoj => ?_, ?_⟩
    · have hj' : j < k + 1 ∨ k + 1 + l.length ≤ j := by
        simp only [List.length_cons] at hj
        omega
      have := h1 j hj'
      have hne : j ≠ k := by
        simp only [List.length_cons] at hj
        omega
      simpa [hne] using this
    · by_cases hjk : j = k
      · subst hjk
        rw [hWk]; exact hw
      · exact h2 j (by omega) (by simp only [List.length_cons] at hj2; omega)
    · by_cases hjk : j = k
      · subst hjk
        obtain rfl : oj = o := Option.some.inj (hoj.symm.trans h0)
        rw [hVk, hWk, ← refT_V j hVb, ← refL_W j hWb]
        exact hs
      · exact h3 j oj (by omega) hoj
    · rw [show k + (o :: l).length = k + 1 + l.length by simp only [List.length_cons]; omega]
      exact h4

/-- A region whose order is drawn. -/
theorem J.draw {P : Program} {N id : Nat} {l : List Oper} {Q : Exit → TM → GH → Prop} {t : TM} {L : GH} (tbl : List Nat) (ann : List (List Nat × Option Nat)) (hm : P.follows .mixedOrders = true) (hB : ordB l.toArray ann = true)
    (hN : (l.all fun o => dok N o.dst) = true) (hA : (ann.all fun a => a.1.all (fun x => decide (x < tbl.length)) && (a.2.all fun x => decide (x < tbl.length))) = true) (hal : decide (ann.length ≤ l.length) = true)
    (hnd : tbl.Nodup) (hdom : ∀ g ∈ tbl, (L g).isSome = true) (h : JD P N l.toArray (fun i => tbl.getD i 0) L l ann t L (fun t' L' => Q .normal t' L')) : J P N (.region id l.toArray true) Q t L := by
  intro L0 w0 a w he hs
  obtain ⟨V, W, h1, h2, h3, h4⟩ := JD_spec (ops := l.toArray) (ann := ann) (t := t) (L := L) l 0 (fun _ => .top) (fun _ => none) (fun j => by simp) h
  simp only [Nat.zero_add] at h1 h2 h3 h4
  have hin : ∀ k x, x ∈ (ann.getD k ([], none)).1 ∨ (ann.getD k ([], none)).2 = some x → x < tbl.length := by
    intro k x hx
    rw [List.getD_eq_getElem?_getD] at hx
    cases hk : ann[k]? with
    | none => rw [hk] at hx; simp at hx
    | some ak =>
      rw [hk] at hx
      simp only [Option.getD_some] at hx
      have := List.all_eq_true.1 hA ak (List.mem_of_getElem? hk)
      simp only [Bool.and_eq_true, List.all_eq_true, decide_eq_true_eq] at this
      rcases hx with hx | hx
      · exact this.1 x hx
      · have h2 := this.2
        rw [hx] at h2
        simpa using h2
  have hWall : ∀ k, (W k).map (·.1) = (ann.getD k ([], none)).2.map (fun i => tbl.getD i 0) := by
    intro k
    by_cases hk : k < l.length
    · exact h2 k (Nat.zero_le _) hk
    · have e := (h1 k (.inr (by omega))).2
      rw [e]
      have hal' : ann.length ≤ l.length := of_decide_eq_true hal
      rw [List.getD_eq_getElem?_getD, List.getElem?_eq_none (by omega)]
      rfl
  have hinj : ∀ x y, x < tbl.length → y < tbl.length → tbl.getD x 0 = tbl.getD y 0 → x = y := by
    intro x y hx hy e
    rw [List.getD_eq_getElem?_getD, List.getD_eq_getElem?_getD, List.getElem?_eq_getElem hx, List.getElem?_eq_getElem hy] at e
    simp only [Option.getD_some] at e
    rcases Nat.lt_trichotomy x y with h | h | h
    · exact absurd e (List.pairwise_iff_getElem.1 hnd x y hx hy h)
    · exact h
    · exact absurd e.symm (List.pairwise_iff_getElem.1 hnd y x hy hx h)
  refine wp_region_any hm ?_
  have hz : ∀ j, (Array.replicate l.toArray.size false).getD j false = false := by
    intro j
    rw [Array.getD_eq_getD_getElem?, Array.getElem?_replicate]
    split <;> rfl
  have e1 : refT l.toArray V t (fun j => (Array.replicate l.toArray.size false).getD j false) l.toArray.size = t := by
    funext s
    have : ∀ k, refT l.toArray V t (fun j => (Array.replicate l.toArray.size false).getD j false) k = t := by
      intro k
      induction k with
      | zero => rfl
      | succ k ih => rw [refT, if_neg (by rw [hz]; simp)]; exact ih
    rw [this]
  have e2 : refL W L (fun j => (Array.replicate l.toArray.size false).getD j false) l.toArray.size = L := by
    have : ∀ k, refL W L (fun j => (Array.replicate l.toArray.size false).getD j false) k = L := by
      intro k
      induction k with
      | zero => rfl
      | succ k ih => rw [refL, if_neg (by rw [hz]; simp)]; exact ih
    rw [this]
  have hx : Ext L w L { w with drawn := w.drawn + 1 } := ⟨rfl, rfl, rfl, Nat.le_refl _, fun _ _ _ => rfl, fun _ _ h => h, fun _ c e fr h => ⟨c, e, fr, h, rfl⟩⟩
  refine draw_any (V := V) (W := W) (t := t) (L := L) hB (fun k x y hx j hy e => hinj x y (hin k x hx) (hin j y hy) e) ?_ hWall ?_ (fun k o ho L' hd hr _ => h3 k o (Nat.zero_le _) ho L' hd hr) (by simpa using h4) _ _ a _ (by simp) ?_ ?_ ?_ ?_
  · intro k o d ho hd
    have hmem : o ∈ l := List.mem_of_getElem? (by simpa using ho)
    have := List.all_eq_true.1 hN o hmem
    rw [hd] at this
    simpa [dok] using this
  · intro k g r hw
    have := hWall k
    rw [hw] at this
    cases hy : (ann.getD k ([], none)).2 with
    | none => rw [hy] at this; cases this
    | some y =>
      rw [hy] at this
      have hyl := hin k y (.inr hy)
      have hg : g = tbl.getD y 0 := Option.some.inj this
      rw [hg, List.getD_eq_getElem?_getD, List.getElem?_eq_getElem hyl]
      exact hdom _ (List.getElem_mem hyl)
  · intro j oj _ hl
    rw [hz j] at hl
    cases hl
  · have : left l.toArray.size (Array.replicate l.toArray.size false) ≤ (List.range l.toArray.size).length := List.length_filter_le _ _
    simpa using this
  · rw [e1, e2]; exact hs.ext hx (fun g r hg => (hs.rows g r hg).ext hx rfl)
  · rw [e2]; exact he.trans hx

/-- The same where no operation writes: all that is told of blocks stays. -/
def JD0 (P : Program) (N : Nat) (ops : Array Oper) (L : GH) : List Oper → TM → (TM → Prop) → Prop
  | [], t, K => K t
  | o :: os, t, K => ∃ v, StepW P N ops o (rst (o.looksAt ops) t) L ((rst (o.looksAt ops) t).putO o.dst v) L ∧ JD0 P N ops L os (t.putO o.dst v) K

theorem JD0_spec {P : Program} {N : Nat} {ops : Array Oper} {L : GH} {t : TM} {K : TM → Prop} : ∀ (l : List Oper) (k : Nat) (V0 : Nat → AV), (∀ j, l[j]? = ops[k + j]?) →
    JD0 P N ops L l (refT ops V0 t (fun _ => true) k) K →
    ∃ V : Nat → AV, (∀ j, j < k → V j = V0 j) ∧
      (∀ j o, k ≤ j → ops[j]? = some o → StepW P N ops o (rst (o.looksAt ops) (refT ops V t (fun _ => true) j)) L ((rst (o.looksAt ops) (refT ops V t (fun _ => true) j)).putO o.dst (V j)) L) ∧
      K (refT ops V t (fun _ => true) (k + l.length))
  | [], k, V0, hl, h => by
    refine ⟨V0, fun _ _ => rfl, fun j o h1 h2 => ?_, h⟩
    have := hl (j - k)
    rw [show k + (j - k) = j by omega, h2] at this
    simp at this
  | o :: l, k, V0, hl, h => by
    obtain ⟨v, hs, hk⟩ := h
    have h0 : ops[k]? = some o := by simpa using (hl 0).symm
    have hV : ∀ j, j < k → (fun j => if j = k then v else V0 j) j = V0 j := fun j hj => by simp; omega
    have eT : refT ops (fun j => if j = k then v else V0 j) t (fun _ => true) (k + 1) = (refT ops V0 t (fun _ => true) k).putO o.dst v := by
      simp only [refT, if_true, h0, Option.bind_some]
      rw [refT_V k hV]
    rw [← eT] at hk
    obtain ⟨V, h1, h3, h4⟩ := JD0_spec l (k + 1) _ (fun j => by have := hl (j + 1); simpa [Nat.add_assoc, Nat.add_comm 1 j] using this) hk
    have hVk : V k = v := by have := h1 k (by omega); simpa using this
    have hVb : ∀ j, j < k → V0 j = V j := fun j hj => by
      have := h1 j (by omega)
      rw [this]; simp; omega
    refine ⟨V, fun j hj => (hVb j hj).symm, fun j oj hj hoj => ?_, ?_⟩
    · by_cases hjk : j = k
      · subst hjk
        obtain rfl : oj = o := Option.some.inj (hoj.symm.trans h0)
        rw [hVk, ← refT_V j hVb]
        exact hs
      · exact h3 j oj (by omega) hoj
    · rw [show k + (o :: l).length = k + 1 + l.length by simp only [List.length_cons]; omega]
      exact h4

theorem J.draw0 {P : Program} {N id : Nat} {l : List Oper} {Q : Exit → TM → GH → Prop} {t : TM} {L : GH} (hm : P.follows .mixedOrders = true) (hB : ordB l.toArray [] = true)
    (hN : (l.all fun o => dok N o.dst) = true) (h : JD0 P N l.toArray L l t (fun t' => Q .normal t' L)) : J P N (.region id l.toArray true) Q t L := by
  intro L0 w0 a w he hs
  obtain ⟨V, _, h3, h4⟩ := JD0_spec (ops := l.toArray) (t := t) l 0 (fun _ => .top) (fun j => by simp) h
  simp only [Nat.zero_add] at h3 h4
  refine wp_region_any hm ?_
  have hz : ∀ j, (Array.replicate l.toArray.size false).getD j false = false := by
    intro j
    rw [Array.getD_eq_getD_getElem?, Array.getElem?_replicate]
    split <;> rfl
  have e1 : refT l.toArray V t (fun j => (Array.replicate l.toArray.size false).getD j false) l.toArray.size = t := by
    have : ∀ k, refT l.toArray V t (fun j => (Array.replicate l.toArray.size false).getD j false) k = t := by
      intro k
      induction k with
      | zero => rfl
      | succ k ih => rw [refT, if_neg (by rw [hz]; simp)]; exact ih
    rw [this]
  have e2 : ∀ m k, refL (fun _ => none) L m k = L := by
    intro m k
    induction k with
    | zero => rfl
    | succ k ih => simp only [refL, appW]; rw [ih]; split <;> rfl
  have hx : Ext L w L { w with drawn := w.drawn + 1 } := ⟨rfl, rfl, rfl, Nat.le_refl _, fun _ _ _ => rfl, fun _ _ h => h, fun _ c e fr h => ⟨c, e, fr, h, rfl⟩⟩
  refine draw_any (V := V) (W := fun _ => none) (tb := fun i => i) (t := t) (L := L) hB (fun k x y hx j hy e => e) ?_ (fun k => by simp) (fun k g r h => by cases h) (fun k o ho L' hd hr hm => ?_) (by rw [e2]; simpa using h4) _ _ a _ (by simp) ?_ ?_ ?_ ?_
  · intro k o d ho hd
    have hmem : o ∈ l := List.mem_of_getElem? (by simpa using ho)
    have := List.all_eq_true.1 hN o hmem
    rw [hd] at this
    simpa [dok] using this
  · obtain ⟨m, rfl⟩ := hm
    rw [e2]
    exact h3 k o (Nat.zero_le _) ho
  · intro j oj _ hl
    rw [hz j] at hl
    cases hl
  · have : left l.toArray.size (Array.replicate l.toArray.size false) ≤ (List.range l.toArray.size).length := List.length_filter_le _ _
    simpa using this
  · rw [e1, e2]; exact hs.ext hx (fun g r hg => (hs.rows g r hg).ext hx rfl)
  · rw [e2]; exact he.trans hx

end Go.Proofs.YtljgkjkdmoejfaaAv
