/-
  ABSTRACT VALUES over the model (own framework, part 12b): regions whose order is drawn up to a place, from which on the operations stand fixed one behind the other.
-/
import Derived.Test.YtljgkjkdmoejfaaAvDraw
set_option linter.unusedVariables false
set_option linter.unusedSimpArgs false
namespace Go.Proofs.YtljgkjkdmoejfaaAv
open Go Go.RowKit

/-- The order that is asked of the first k operations. -/
def ordBk (ops : Array Oper) (kk : Nat) (ann : List (List Nat × Option Nat)) : Bool :=
  ((List.range kk).all fun j => match ops[j]? with
    | some oj => (oj.after.all fun e => !Region.binds .any e || decide (e.on < j)) &&
      ((List.range j).all fun i => match ops[i]? with
        | some oi =>
          let ai := ann.getD i ([], none)
          let aj := ann.getD j ([], none)
          waits ops j i ||
          ((match oi.dst with | some d => !(oj.looksAt ops).contains d && oj.dst != some d | none => true) && (match oj.dst with | some d => !(oi.looksAt ops).contains d | none => true) &&
           (match ai.2 with | some g => !aj.1.contains g && aj.2 != some g | none => true) && (match aj.2 with | some g => !ai.1.contains g | none => true))
        | none => true)
    | none => true)

theorem ordBk_spec {ops : Array Oper} {kk : Nat} {ann : List (List Nat × Option Nat)} (h : ordBk ops kk ann = true) {i j : Nat} {oi oj : Oper} (hij : i < j) (hjs : j < kk) (hi : ops[i]? = some oi) (hj : ops[j]? = some oj) (hw : waits ops j i = false) :
    (∀ d, oi.dst = some d → (oj.looksAt ops).contains d = false ∧ oj.dst ≠ some d) ∧ (∀ d, oj.dst = some d → (oi.looksAt ops).contains d = false) ∧
    (∀ g, (ann.getD i ([], none)).2 = some g → (ann.getD j ([], none)).1.contains g = false ∧ (ann.getD j ([], none)).2 ≠ some g) ∧ (∀ g, (ann.getD j ([], none)).2 = some g → (ann.getD i ([], none)).1.contains g = false) := by
  have h1 := List.all_eq_true.1 h j (List.mem_range.2 hjs)
  simp only [hj, Bool.and_eq_true] at h1
  have h2 := List.all_eq_true.1 h1.2 i (List.mem_range.2 hij)
  simp only [hi, hw, Bool.false_or, Bool.and_eq_true] at h2
  obtain ⟨⟨⟨a, b⟩, c⟩, d⟩ := h2
  refine ⟨fun x hx => ?_, fun x hx => ?_, fun x hx => ?_, fun x hx => ?_⟩
  · rw [hx] at a; simpa using a
  · rw [hx] at b; simpa using b
  · rw [hx] at c; simpa using c
  · rw [hx] at d; simpa using d
theorem ordBk_back {ops : Array Oper} {kk : Nat} {ann : List (List Nat × Option Nat)} (h : ordBk ops kk ann = true) {j : Nat} {oj : Oper} (hjs : j < kk) (hj : ops[j]? = some oj) : ∀ e ∈ oj.after, Region.binds .any e = true → e.on < j := by
  have h1 := List.all_eq_true.1 h j (List.mem_range.2 hjs)
  simp only [hj, Bool.and_eq_true] at h1
  intro e he hb
  have := Array.all_eq_true'.1 h1.1 e he
  rw [hb] at this
  simpa using this

theorem draw_anyK {P : Program} {N : Nat} {ops : Array Oper} {kk : Nat} {ann : List (List Nat × Option Nat)} {tb : Nat → Nat} {V : Nat → AV} {W : Nat → Option (Nat × Row)} {t : TM} {L : GH} {Q : Exit → TM → GH → Prop} {L0 : GH} {w0 : World}
    (hkk : kk ≤ ops.size) (hF : ∀ i o, kk ≤ i → ops[i]? = some o → ∀ listed : Array Bool, (∀ j oj, ops[j]? = some oj → listed.getD j false = true → ∀ e ∈ oj.after, Region.binds .any e = true → listed.getD e.on false = true) → (∀ e ∈ o.after, Region.binds .any e = true → listed.getD e.on false = true) → ∀ j, j < kk → listed.getD j false = true)
    (hB : ordBk ops kk ann = true) (htb : ∀ k x y, x ∈ (ann.getD k ([], none)).1 ∨ (ann.getD k ([], none)).2 = some x → ∀ j, (y ∈ (ann.getD j ([], none)).1 ∨ (ann.getD j ([], none)).2 = some y) → tb x = tb y → x = y)
    (hN : ∀ (k : Nat) (o : Oper) (d : Nat), k < kk → ops[k]? = some o → o.dst = some d → d < N) (hW : ∀ k, (W k).map (·.1) = (ann.getD k ([], none)).2.map tb) (hWL : ∀ k g r, W k = some (g, r) → (L g).isSome = true)
    (hS : ∀ k o, k < kk → ops[k]? = some o → ∀ L', (∀ b, (L' b).isSome = (L b).isSome) → (∀ x ∈ (ann.getD k ([], none)).1, L' (tb x) = refL W L (fun _ => true) k (tb x)) → (∃ m, L' = refL W L m kk) →
      StepW P N ops o (rst (o.looksAt ops) (refT ops V t (fun _ => true) k)) L' ((rst (o.looksAt ops) (refT ops V t (fun _ => true) k)).putO o.dst (V k)) (appW L' (W k)))
    (hQ : ∀ (fuel : Nat) (listed : Array Bool) (a : Act) (w : World), listed.size = ops.size → (∀ j, listed.getD j false = decide (j < kk)) → left ops.size listed ≤ fuel → Sim N (refT ops V t (fun _ => true) kk) (refL W L (fun _ => true) kk) a w → Ext L0 w0 (refL W L (fun _ => true) kk) w → wpAny P .any ops (LQ N L0 w0 Q) fuel listed a w) :
    ∀ (fuel : Nat) (listed : Array Bool) (a : Act) (w : World), listed.size = ops.size → (∀ j oj, ops[j]? = some oj → listed.getD j false = true → ∀ e ∈ oj.after, Region.binds .any e = true → listed.getD e.on false = true) → (∀ j, kk ≤ j → listed.getD j false = false) →
      left ops.size listed ≤ fuel → Sim N (refT ops V t (fun j => listed.getD j false) kk) (refL W L (fun j => listed.getD j false) kk) a w →
      Ext L0 w0 (refL W L (fun j => listed.getD j false) kk) w → wpAny P .any ops (LQ N L0 w0 Q) fuel listed a w := by
  have fin : ∀ (fuel : Nat) (listed : Array Bool) (a : Act) (w : World), listed.size = ops.size → (∀ j, kk ≤ j → listed.getD j false = false) → (∀ j, j < kk → listed.getD j false = true) → left ops.size listed ≤ fuel → Sim N (refT ops V t (fun j => listed.getD j false) kk) (refL W L (fun j => listed.getD j false) kk) a w →
      Ext L0 w0 (refL W L (fun j => listed.getD j false) kk) w → wpAny P .any ops (LQ N L0 w0 Q) fuel listed a w := by
    intro fuel listed a w hsz hsuf hall hle hs hx
    have e1 : refT ops V t (fun j => listed.getD j false) kk = refT ops V t (fun _ => true) kk := funext fun s => refT_cong _ fun j hj _ => hall j hj
    have e2 : refL W L (fun j => listed.getD j false) kk = refL W L (fun _ => true) kk := funext fun s => refL_cong _ fun j hj _ => hall j hj
    rw [e1, e2] at hs
    rw [e2] at hx
    refine hQ fuel listed a w hsz (fun j => ?_) hle hs hx
    by_cases h : j < kk
    · rw [hall j h, decide_eq_true h]
    · rw [hsuf j (by omega), decide_eq_false h]
  have stuck : ∀ (listed : Array Bool), listed.size = ops.size → Region.ready .any ops listed = [] → ∀ j, j < kk → listed.getD j false = true := by
    intro listed hsz hr j
    induction j using Nat.strongRecOn with
    | _ j ih =>
      intro hj
      cases hl : listed.getD j false with
      | true => rfl
      | false =>
        exfalso
        have hjs : j < ops.size := by omega
        have : j ∈ Region.ready .any ops listed := by
          rw [mem_ready]
          refine ⟨by rw [getD_two (hsz ▸ hjs)]; exact hl, ops[j], by simp [hjs], fun e he hb => ?_⟩
          have hlt := ordBk_back hB (j := j) hj (by simp [hjs]) e he hb
          exact ih e.on hlt (by omega)
        rw [hr] at this
        cases this
  intro fuel
  induction fuel with
  | zero =>
    intro listed a w hsz hcl hsuf hle hs hx
    have hall : ∀ j, j < ops.size → listed.getD j true = true := by
      intro j hj
      cases hl : listed.getD j true with
      | true => rfl
      | false =>
        have : j ∈ (List.range ops.size).filter fun i => !listed.getD i true := List.mem_filter.2 ⟨List.mem_range.2 hj, by rw [hl]; rfl⟩
        have := List.length_pos_of_mem this
        unfold left at hle
        omega
    exact fin 0 listed a w hsz hsuf (fun j hj => by rw [← getD_two (hsz ▸ (by omega : j < ops.size))]; exact hall j (by omega)) hle hs hx
  | succ fuel ih =>
    intro listed a w hsz hcl hsuf hle hs hx
    by_cases hall : ∀ j, j < kk → listed.getD j false = true
    · exact fin _ listed a w hsz hsuf hall hle hs hx
    refine ⟨fun hr => absurd (stuck listed hsz hr) hall, fun i hi => ?_⟩
    obtain ⟨h0, o, ho, hdeps⟩ := mem_ready.1 hi
    have hin : i < ops.size := (Array.getElem?_eq_some_iff.1 ho).1
    have hik : i < kk := Nat.lt_of_not_le fun hle2 => hall (hF i o hle2 ho listed hcl hdeps)
    have h0f : listed.getD i false = false := by rw [← getD_two (hsz ▸ hin)]; exact h0
    -- who waits for i is not listed; whom i waits for is
    have w1 : ∀ j, waits ops j i = true → listed.getD j false = false := by
      intro j hw
      obtain ⟨oj, hj, e, he, hb, hon⟩ := waits_spec hw
      cases hl : listed.getD j false with
      | false => rfl
      | true =>
        have := hcl j oj hj hl e he hb
        rw [hon, h0f] at this
        cases this
    have w2 : ∀ j, waits ops i j = true → listed.getD j false = true := by
      intro j hw
      obtain ⟨oi, hoi, e, he, hb, hon⟩ := waits_spec hw
      obtain rfl : oi = o := Option.some.inj (hoi.symm.trans ho)
      rw [← hon]
      exact hdeps e he hb
    have dstE : ∀ {j s : Nat}, (ops[j]?).bind (·.dst) = some s → ∃ oj : Oper, ops[j]? = some oj ∧ oj.dst = some s := by
      intro j s h
      cases hj : ops[j]? with
      | none => rw [hj] at h; cases h
      | some oj => rw [hj] at h; exact ⟨oj, rfl, h⟩
    have hag : ∀ s, (o.looksAt ops).contains s = true → refT ops V t (fun j => listed.getD j false) kk s = refT ops V t (fun _ => true) i s := by
      intro s hsl
      rw [← refT_upto kk (by omega)]
      refine refT_cong _ fun j hjk hd => ?_
      obtain ⟨oj, hoj, hdj⟩ := dstE hd
      rcases Nat.lt_trichotomy j i with h | h | h
      · simp only [h, decide_true]
        cases hw : waits ops i j with
        | true => exact w2 j hw
        | false =>
          have := (ordBk_spec hB h hik hoj ho hw).1 s hdj
          rw [hsl] at this
          cases this.1
      · subst h
        simpa using h0f
      · have : decide (j < i) = false := by simp; omega
        rw [this]
        cases hw : waits ops j i with
        | true => exact w1 j hw
        | false =>
          have := (ordBk_spec hB h hjk ho hoj hw).2.1 s hdj
          rw [hsl] at this
          cases this
    have wmap : ∀ {j g}, (W j).map (·.1) = some g → ∃ y, (ann.getD j ([], none)).2 = some y ∧ tb y = g := by
      intro j g h
      rw [hW j] at h
      cases hy : (ann.getD j ([], none)).2 with
      | none => rw [hy] at h; cases h
      | some y => rw [hy] at h; exact ⟨y, rfl, Option.some.inj h⟩
    have opsE : ∀ {j}, j < kk → ∃ oj, ops[j]? = some oj := fun {j} hj => ⟨ops[j]'(by omega), by simp⟩
    have hagL : ∀ x ∈ (ann.getD i ([], none)).1, refL W L (fun j => listed.getD j false) kk (tb x) = refL W L (fun _ => true) i (tb x) := by
      intro x hx
      rw [← refL_upto kk (by omega)]
      refine refL_cong _ fun j hjk hd => ?_
      obtain ⟨oj, hoj⟩ := opsE hjk
      obtain ⟨y, hy, hyx⟩ := wmap hd
      obtain rfl : y = x := htb j y x (.inr hy) i (.inl hx) hyx
      have hc : (ann.getD i ([], none)).1.contains y = true := by simpa using hx
      rcases Nat.lt_trichotomy j i with h | h | h
      · simp only [h, decide_true]
        cases hw : waits ops i j with
        | true => exact w2 j hw
        | false =>
          have := (ordBk_spec hB h hik hoj ho hw).2.2.1 y hy
          rw [hc] at this
          cases this.1
      · subst h
        simpa using h0f
      · have : decide (j < i) = false := by simp; omega
        rw [this]
        cases hw : waits ops j i with
        | true => exact w1 j hw
        | false =>
          have := (ordBk_spec hB h hjk ho hoj hw).2.2.2 y hy
          rw [hc] at this
          cases this
    refine stepW_run ho (hN i o · hik ho) (hS i o hik ho _ (refL_dom hWL _) hagL ⟨_, rfl⟩) hag hs fun a' w' s' x' => ?_
    have hm' : (fun j => (listed.setIfInBounds i true).getD j false) = fun j => if j = i then true else listed.getD j false := by
      funext j
      by_cases h : j = i
      · subst h; simp [hsz, hin]
      · rw [getD_set_ne false (Ne.symm h), if_neg h]
    have hd0 : (ops[i]?).bind (·.dst) = o.dst := by rw [ho]; rfl
    have eT : refT ops V t (fun j => (listed.setIfInBounds i true).getD j false) kk = (refT ops V t (fun j => listed.getD j false) kk).putO o.dst (V i) := by
      rw [hm', refT_more h0f kk hik, hd0]
      intro j h1 h2 hd hne
      rw [hd0] at hd hne
      cases hdo : o.dst with
      | none => exact absurd hdo hne
      | some d =>
        rw [hdo] at hd
        obtain ⟨oj, hoj, hdj⟩ := dstE hd
        cases hw : waits ops j i with
        | true => exact w1 j hw
        | false => exact absurd hdj ((ordBk_spec hB h1 h2 ho hoj hw).1 d hdo).2
    have eL : refL W L (fun j => (listed.setIfInBounds i true).getD j false) kk = appW (refL W L (fun j => listed.getD j false) kk) (W i) := by
      rw [hm', refL_more h0f kk hik]
      intro j h1 h2 hd hne
      cases hwi : (W i).map (·.1) with
      | none => exact absurd hwi hne
      | some g =>
        rw [hwi] at hd
        obtain ⟨x, hx, hxg⟩ := wmap hwi
        obtain ⟨y, hy, hyg⟩ := wmap hd
        obtain rfl : y = x := htb j y x (.inr hy) i (.inr hx) (hyg.trans hxg.symm)
        obtain ⟨oj, hoj⟩ := opsE h2
        cases hw : waits ops j i with
        | true => exact w1 j hw
        | false => exact absurd hy ((ordBk_spec hB h1 h2 ho hoj hw).2.2.1 y hx).2
    refine ih _ a' w' (by simp [hsz]) ?_ ?_ (by have := left_set hsz h0; omega) (by rw [eT, eL]; exact s') (by rw [eL]; exact hx.trans x')
    · intro j oj hj hl e he hb
      by_cases hij : i = j
      · subst hij
        obtain rfl : oj = o := Option.some.inj (hj.symm.trans ho)
        exact getD_set_true (hdeps e he hb)
      · rw [getD_set_ne false hij] at hl
        exact getD_set_true (hcl j oj hj hl e he hb)
    · intro j hj
      rw [getD_set_ne false (by omega)]
      exact hsuf j hj

/-! From a place on every operation waits for all ahead of it. -/
/-- For whom an operation waits, through others too: as a number's bits. -/
def maskE (acc : List Nat) (m : Nat) (e : Edge) : Nat := bif Region.binds .any e then m ||| (2 ^ e.on ||| acc.getD e.on 0) else m
def maskO (acc : List Nat) (o : Oper) : Nat := o.after.toList.foldl (maskE acc) 0
def masks : List Oper → List Nat → List Nat
  | [], acc => acc
  | o :: os, acc => masks os (acc ++ [maskO acc o])
/-- How many are drawn ahead of the fixed ones. -/
def sufN (ms : List Nat) : Nat → Nat
  | 0 => 0
  | n + 1 => match Nat.beq (ms.getD n 0) (2 ^ n - 1) with
    | true => sufN ms n
    | false => n + 1
/-- Waits for, through others too. -/
inductive Dep (ops : Array Oper) : Nat → Nat → Prop where
  | one {i j : Nat} {o : Oper} {e : Edge} (ho : ops[i]? = some o) (he : e ∈ o.after) (hb : Region.binds .any e = true) (hj : e.on = j) : Dep ops i j
  | step {i j : Nat} {o : Oper} {e : Edge} (ho : ops[i]? = some o) (he : e ∈ o.after) (hb : Region.binds .any e = true) (h : Dep ops e.on j) : Dep ops i j
theorem Dep.listed {ops : Array Oper} {listed : Array Bool} (hcl : ∀ j oj, ops[j]? = some oj → listed.getD j false = true → ∀ e ∈ oj.after, Region.binds .any e = true → listed.getD e.on false = true) {i j : Nat} (h : Dep ops i j) :
    ∀ o, ops[i]? = some o → (∀ e ∈ o.after, Region.binds .any e = true → listed.getD e.on false = true) → listed.getD j false = true := by
  induction h with
  | one ho he hb hj =>
    intro o ho' hd
    obtain rfl := Option.some.inj (ho.symm.trans ho')
    rw [← hj]
    exact hd _ he hb
  | step ho he hb h ih =>
    intro o ho' hd
    obtain rfl := Option.some.inj (ho.symm.trans ho')
    have h1 := hd _ he hb
    cases h with
    | one ho2 he2 hb2 hj2 => exact ih _ ho2 (hcl _ _ ho2 h1)
    | step ho2 he2 hb2 h2 => exact ih _ ho2 (hcl _ _ ho2 h1)
theorem maskO_bit {acc : List Nat} {j : Nat} : ∀ (l : List Edge) (m : Nat), (l.foldl (maskE acc) m).testBit j = true → m.testBit j = true ∨ ∃ e ∈ l, Region.binds .any e = true ∧ (e.on = j ∨ (acc.getD e.on 0).testBit j = true)
  | [], m, h => .inl h
  | e :: l, m, h => by
    rcases maskO_bit l _ h with h | ⟨e', he', hb, h⟩
    · unfold maskE at h
      cases hb : Region.binds .any e with
      | false => rw [hb, cond_false] at h; exact .inl h
      | true =>
        rw [hb, cond_true, Nat.testBit_or, Nat.testBit_or, Bool.or_eq_true, Bool.or_eq_true, Nat.testBit_two_pow] at h
        rcases h with h | h | h
        · exact .inl h
        · exact .inr ⟨e, by simp, hb, .inl (of_decide_eq_true h)⟩
        · exact .inr ⟨e, by simp, hb, .inr h⟩
    · exact .inr ⟨e', by simp [he'], hb, h⟩
theorem masks_len : ∀ (l : List Oper) (acc : List Nat), (masks l acc).length = acc.length + l.length
  | [], acc => rfl
  | o :: l, acc => by
    rw [masks, masks_len l]
    simp
    omega
theorem masks_keep : ∀ (l : List Oper) (acc : List Nat) (i : Nat), i < acc.length → (masks l acc).getD i 0 = acc.getD i 0
  | [], acc, i, h => rfl
  | o :: l, acc, i, h => by
    rw [masks, masks_keep l _ i (by simp; omega)]
    rw [List.getD_eq_getElem?_getD, List.getD_eq_getElem?_getD, List.getElem?_append_left h]
theorem masks_dep {ops : Array Oper} : ∀ (l : List Oper) (acc : List Nat), (∀ k, l[k]? = ops[acc.length + k]?) → (∀ i j, (acc.getD i 0).testBit j = true → Dep ops i j) → ∀ i j, ((masks l acc).getD i 0).testBit j = true → Dep ops i j
  | [], acc, _, h => h
  | o :: l, acc, hl, h => by
    rw [masks]
    have h0 : ops[acc.length]? = some o := by simpa using (hl 0).symm
    refine masks_dep l _ (fun k => ?_) (fun i j hb => ?_)
    · have := hl (k + 1)
      simpa [Nat.add_assoc, Nat.add_comm 1 k] using this
    · by_cases hi : i < acc.length
      · rw [List.getD_eq_getElem?_getD, List.getElem?_append_left hi, ← List.getD_eq_getElem?_getD] at hb
        exact h i j hb
      · by_cases he : i = acc.length
        · subst he
          rw [List.getD_eq_getElem?_getD, List.getElem?_append_right (Nat.le_refl _), Nat.sub_self] at hb
          rcases maskO_bit o.after.toList 0 hb with hb | ⟨e, he, hb, h2⟩
          · simp at hb
          · rcases h2 with h2 | h2
            · exact .one h0 (by simpa using he) hb h2
            · exact .step h0 (by simpa using he) hb (h _ _ h2)
        · rw [List.getD_eq_getElem?_getD, List.getElem?_eq_none (by simp; omega)] at hb
          simp at hb
theorem sufN_le (ms : List Nat) : ∀ n, sufN ms n ≤ n
  | 0 => Nat.le_refl _
  | n + 1 => by
    have := sufN_le ms n
    unfold sufN
    split <;> omega
theorem sufN_full (ms : List Nat) : ∀ n i, sufN ms n ≤ i → i < n → ms.getD i 0 = 2 ^ i - 1
  | 0, i, _, h => absurd h (by omega)
  | n + 1, i, h1, h2 => by
    unfold sufN at h1
    split at h1
    · rename_i hb
      by_cases hi : i = n
      · rw [hi]
        exact Nat.eq_of_beq_eq_true hb
      · exact sufN_full ms n i h1 (by omega)
    · omega
/-- How many operations are drawn ahead of the fixed ones. -/
def drawN (l : List Oper) : Nat := sufN (masks l []) l.length
theorem drawN_le (l : List Oper) : drawN l ≤ l.length := sufN_le _ _
theorem drawN_dep (l : List Oper) (i j : Nat) (h1 : drawN l ≤ i) (h2 : i < l.length) (h3 : j < i) : Dep l.toArray i j := by
  refine masks_dep (ops := l.toArray) l [] (fun k => by simp) (fun i j h => by simp at h) i j ?_
  rw [sufN_full _ _ i h1 h2, Nat.testBit_two_pow_sub_one]
  exact decide_eq_true h3
theorem drawN_lt (l : List Oper) (i : Nat) (o : Oper) (e : Edge) (h1 : drawN l ≤ i) (ho : l[i]? = some o) (he : e ∈ o.after) (hb : Region.binds .any e = true) : e.on < i := by
  have hi : i < l.length := (List.getElem?_eq_some_iff.1 ho).1
  have hf := sufN_full (masks l []) l.length i h1 hi
  have key : ∀ (l : List Oper) (acc : List Nat) (i : Nat) (o : Oper), l[i]? = some o → ((masks l acc).getD (acc.length + i) 0).testBit e.on = true ∨ e ∉ o.after := fun l => by
    induction l with
    | nil => intro acc i o ho; simp at ho
    | cons o' l ih =>
      intro acc i o ho
      rw [masks]
      cases i with
      | zero =>
        obtain rfl : o' = o := by simpa using ho
        by_cases he : e ∈ o'.after
        · left
          rw [masks_keep l _ _ (by simp)]
          rw [List.getD_eq_getElem?_getD, List.getElem?_append_right (by omega)]
          simp only [Nat.add_zero, Nat.sub_self, List.getElem?_cons_zero, Option.getD_some]
          have fold : ∀ (l : List Edge) (m : Nat), (m.testBit e.on = true ∨ e ∈ l) → (l.foldl (maskE acc) m).testBit e.on = true := fun l => by
            induction l with
            | nil => intro m h; rcases h with h | h; exact h; cases h
            | cons e' l ih =>
              intro m h
              refine ih _ ?_
              rcases h with h | h
              · left
                unfold maskE
                cases Region.binds .any e' with
                | false => exact h
                | true => rw [cond_true, Nat.testBit_or, h]; rfl
              · rcases List.mem_cons.1 h with rfl | h
                · left
                  unfold maskE
                  rw [hb, cond_true, Nat.testBit_or, Nat.testBit_or, Nat.testBit_two_pow, decide_eq_true rfl]
                  simp
                · exact .inr h
          exact fold _ _ (.inr (by simpa using he))
        · exact .inr he
      | succ i =>
        have := ih (acc ++ [maskO acc o']) i o (by simpa using ho)
        rw [List.length_append, List.length_singleton, Nat.add_assoc, Nat.add_comm 1 i] at this
        exact this
  rcases key l [] i o ho with h | h
  · rw [List.length_nil, Nat.zero_add, hf, Nat.testBit_two_pow_sub_one] at h
    exact of_decide_eq_true h
  · exact absurd he h
/-- The fixed ones, one behind the other. -/
theorem suf_run {P : Program} {l : List Oper} {K : Exit → Act → World → Prop} (hlow : ∀ (y : Nat) (o : Oper) (e : Edge), l[y]? = some o → e ∈ o.after → Region.binds .any e = true → e.on < y) : ∀ (os : List Oper) (i : Nat), drawN l ≤ i → l.drop i = os → ∀ (fuel : Nat) (listed : Array Bool) (a : Act) (w : World), listed.size = l.toArray.size → (∀ j, listed.getD j false = decide (j < i)) → left l.toArray.size listed ≤ fuel →
    wpList P l.toArray K os a w → wpAny P .any l.toArray K fuel listed a w := by
  intro os
  induction os with
  | nil =>
    intro i hi hos fuel listed a w hsz hl hle h
    have hil : l.length ≤ i := List.drop_eq_nil_iff.1 hos
    have hr : Region.ready .any l.toArray listed = [] := by
      cases hr : Region.ready .any l.toArray listed with
      | nil => rfl
      | cons x r =>
        have hx : x ∈ Region.ready .any l.toArray listed := by rw [hr]; simp
        obtain ⟨h0, o, ho, _⟩ := mem_ready.1 hx
        have hxn : x < l.toArray.size := (Array.getElem?_eq_some_iff.1 ho).1
        rw [getD_two (hsz ▸ hxn), hl x, decide_eq_true (by simp at hxn; omega)] at h0
        cases h0
    have hK : K .normal a w := h
    cases fuel with
    | zero => exact ⟨hr, hK⟩
    | succ fuel => exact ⟨fun _ => hK, fun x hx => by rw [hr] at hx; cases hx⟩
  | cons o os ih =>
    intro i hi hos fuel listed a w hsz hl hle h
    have hil : i < l.length := by
      rcases Nat.lt_or_ge i l.length with h | h
      · exact h
      · rw [List.drop_eq_nil_of_le h] at hos; cases hos
    have ho : l[i]? = some o := by
      have := congrArg List.head? hos
      rw [List.head?_drop] at this
      exact this
    have ho' : l.toArray[i]? = some o := by simpa using ho
    have hos' : l.drop (i + 1) = os := by
      have := congrArg List.tail hos
      rw [List.tail_drop] at this
      exact this
    have hsz' : i < listed.size := by rw [hsz]; simpa using hil
    have h0 : listed.getD i true = false := by rw [getD_two hsz', hl i, decide_eq_false (by omega)]
    have hcl : ∀ j oj, l.toArray[j]? = some oj → listed.getD j false = true → ∀ e ∈ oj.after, Region.binds .any e = true → listed.getD e.on false = true := by
      intro j oj hj hlj e he hb
      rw [hl j] at hlj
      have hji := of_decide_eq_true hlj
      have := hlow j oj e (by simpa using hj) he hb
      rw [hl e.on]
      exact decide_eq_true (by omega)
    cases fuel with
    | zero =>
      exfalso
      have : i ∈ (List.range l.toArray.size).filter fun i => !listed.getD i true := List.mem_filter.2 ⟨List.mem_range.2 (by simpa using hil), by rw [h0]; rfl⟩
      have := List.length_pos_of_mem this
      unfold left at hle
      omega
    | succ fuel =>
      have hready : i ∈ Region.ready .any l.toArray listed := by
        rw [mem_ready]
        refine ⟨h0, o, ho', fun e he hb => ?_⟩
        rw [hl e.on]
        exact decide_eq_true (drawN_lt l i o e hi ho he hb)
      refine ⟨fun hr => absurd (hr ▸ hready) (by simp), fun x hx => ?_⟩
      obtain ⟨hx0, ox, hox, hdeps⟩ := mem_ready.1 hx
      have hxn : x < l.toArray.size := (Array.getElem?_eq_some_iff.1 hox).1
      have hxi : x = i := by
        rw [getD_two (hsz ▸ hxn), hl x] at hx0
        have hge : i ≤ x := Nat.le_of_not_lt (of_decide_eq_false hx0)
        rcases Nat.lt_or_ge i x with hlt | hle2
        · exfalso
          have hd := drawN_dep l x i (by omega) (by simpa using hxn) hlt
          have := Dep.listed hcl hd ox hox hdeps
          rw [hl i, decide_eq_false (by omega)] at this
          cases this
        · omega
      subst hxi
      obtain rfl : ox = o := Option.some.inj (hox.symm.trans ho')
      have hl2 : ∀ j, (listed.setIfInBounds x true).getD j false = decide (j < x + 1) := by
        intro j
        by_cases hj : j = x
        · subst hj
          simp [hsz']
        · rw [getD_set_ne false (Ne.symm hj), hl j]
          congr 1
          apply propext
          omega
      have hlt := left_set hsz h0
      have go : ∀ a' w', wpList P l.toArray K os a' w' → wpAny P .any l.toArray K fuel (listed.setIfInBounds x true) a' w' := fun a' w' hh => ih (x + 1) (by omega) hos' fuel _ a' w' (by simp [hsz]) hl2 (by omega) hh
      unfold wpOp
      rw [ho']
      unfold wpList at h
      simp only
      split at h
      · rename_i hw
        rw [if_pos hw]
        exact h.imp (fun h => Oper.wp_mono go h) id
      · rename_i hw
        rw [if_neg hw]
        exact go _ _ h
theorem JD_specK {P : Program} {N : Nat} {ops : Array Oper} {tb : Nat → Nat} {D L : GH} {t : TM} {ann : List (List Nat × Option Nat)} {K : TM → GH → Prop} : ∀ (l : List Oper) (k : Nat) (V0 : Nat → AV) (W0 : Nat → Option (Nat × Row)), (∀ j, j < l.length → l[j]? = ops[k + j]?) →
    JD P N ops tb D l (ann.drop k) (refT ops V0 t (fun _ => true) k) (refL W0 L (fun _ => true) k) K →
    ∃ V W, (∀ j, j < k ∨ k + l.length ≤ j → V j = V0 j ∧ W j = W0 j) ∧ (∀ j, k ≤ j → j < k + l.length → (W j).map (·.1) = (ann.getD j ([], none)).2.map tb) ∧
      (∀ j o, k ≤ j → j < k + l.length → ops[j]? = some o → ∀ L', (∀ b, (L' b).isSome = (D b).isSome) → (∀ x ∈ (ann.getD j ([], none)).1, L' (tb x) = refL W L (fun _ => true) j (tb x)) →
        StepW P N ops o (rst (o.looksAt ops) (refT ops V t (fun _ => true) j)) L' ((rst (o.looksAt ops) (refT ops V t (fun _ => true) j)).putO o.dst (V j)) (appW L' (W j))) ∧
      K (refT ops V t (fun _ => true) (k + l.length)) (refL W L (fun _ => true) (k + l.length))
  | [], k, V0, W0, hl, h => by
    exact ⟨V0, W0, fun _ _ => ⟨rfl, rfl⟩, fun j h1 h2 => by simp at h2; omega, fun j o h1 h2 => by simp at h2; omega, h⟩
  | o :: l, k, V0, W0, hl, h => by
    obtain ⟨v, w, hw, hs, hk⟩ := h
    have h0 : ops[k]? = some o := by simpa using (hl 0 (by simp)).symm
    have hd : (ann.drop k).headD ([], none) = ann.getD k ([], none) := by
      rw [List.getD_eq_getElem?_getD, ← List.head?_drop]
      cases ann.drop k <;> rfl
    rw [hd] at hw hs
    have hV : ∀ j, j < k → (fun j => if j = k then v else V0 j) j = V0 j := fun j hj => by simp; omega
    have hWw : ∀ j, j < k → (fun j => if j = k then w else W0 j) j = W0 j := fun j hj => by simp; omega
    have eT : refT ops (fun j => if j = k then v else V0 j) t (fun _ => true) (k + 1) = (refT ops V0 t (fun _ => true) k).putO o.dst v := by
      simp only [refT, if_true, h0, Option.bind_some]
      rw [refT_V k hV]
    have eL : refL (fun j => if j = k then w else W0 j) L (fun _ => true) (k + 1) = appW (refL W0 L (fun _ => true) k) w := by
      simp only [refL, if_true]
      rw [refL_W k hWw]
    rw [List.tail_drop] at hk
    rw [← eT, ← eL] at hk
    obtain ⟨V, W, h1, h2, h3, h4⟩ := JD_specK l (k + 1) _ _ (fun j hj => by have := hl (j + 1) (by simpa using hj); simpa [Nat.add_assoc, Nat.add_comm 1 j] using this) hk
    have hVk : V k = v := by have := (h1 k (.inl (by omega))).1; simpa using this
    have hWk : W k = w := by have := (h1 k (.inl (by omega))).2; simpa using this
    have hVb : ∀ j, j < k → V0 j = V j := fun j hj => by
      have := (h1 j (.inl (by omega))).1
      rw [this]; simp; omega
    have hWb : ∀ j, j < k → W0 j = W j := fun j hj => by
      have := (h1 j (.inl (by omega))).2
      rw [this]; simp; omega
    refine ⟨V, W, fun j hj => ?_, fun j hj hj2 => ?_, fun j oj hj hjl hoj => ?_, ?_⟩
    · have hj' : j < k + 1 ∨ k + 1 + l.length ≤ j := by
        simp only [List.length_cons] at hj
        omega
      have := h1 j hj'
      have hne : j ≠ k := by
        simp only [List.length_cons] at hj
        omega
      simpa [hne] using this
    · by_cases hjk : j = k
      · subst hjk
        rw [hWk]; exact hw
      · exact h2 j (by omega) (by simp only [List.length_cons] at hj2; omega)
    · by_cases hjk : j = k
      · subst hjk
        obtain rfl : oj = o := Option.some.inj (hoj.symm.trans h0)
        rw [hVk, hWk, ← refT_V j hVb, ← refL_W j hWb]
        exact hs
      · exact h3 j oj (by omega) (by simp only [List.length_cons] at hjl; omega) hoj
    · rw [show k + (o :: l).length = k + 1 + l.length by simp only [List.length_cons]; omega]
      exact h4

/-- A region of which just the first operations are drawn; blocks by any numbers. -/
theorem J.drawS {P : Program} {N id : Nat} {l : List Oper} {Q : Exit → TM → GH → Prop} {t : TM} {L : GH} (tb : Nat → Nat) (ann : List (List Nat × Option Nat)) (hm : P.follows .mixedOrders = true) (hB : ordBk l.toArray (drawN l) ann = true)
    (hN : ((l.take (drawN l)).all fun o => dok N o.dst) = true) (hal : ann.length = (l.take (drawN l)).length) (hinj : ∀ k x y, x ∈ (ann.getD k ([], none)).1 ∨ (ann.getD k ([], none)).2 = some x → ∀ j, (y ∈ (ann.getD j ([], none)).1 ∨ (ann.getD j ([], none)).2 = some y) → tb x = tb y → x = y)
    (hdom : ∀ k x, (ann.getD k ([], none)).2 = some x → (L (tb x)).isSome = true) (h : JD P N l.toArray tb L (l.take (drawN l)) ann t L (fun t' L' => JO P N l.toArray Q (l.drop (drawN l)) t' L')) : J P N (.region id l.toArray true) Q t L := by
  intro L0 w0 a w he hs
  have hkl := drawN_le l
  have htl : (l.take (drawN l)).length = drawN l := by rw [List.length_take]; omega
  obtain ⟨V, W, h1, h2, h3, h4⟩ := JD_specK (ops := l.toArray) (ann := ann) (t := t) (L := L) (l.take (drawN l)) 0 (fun _ => .top) (fun _ => none) (fun j hj => by rw [htl] at hj; rw [List.getElem?_take_of_lt hj]; simp) h
  simp only [Nat.zero_add, htl] at h1 h2 h3 h4
  have hWall : ∀ k, (W k).map (·.1) = (ann.getD k ([], none)).2.map tb := by
    intro k
    by_cases hk : k < drawN l
    · exact h2 k (Nat.zero_le _) hk
    · have e := (h1 k (.inr (by omega))).2
      rw [e]
      rw [List.getD_eq_getElem?_getD, List.getElem?_eq_none (by omega)]
      rfl
  refine wp_region_any hm ?_
  have hz : ∀ j, (Array.replicate l.toArray.size false).getD j false = false := by
    intro j
    rw [Array.getD_eq_getD_getElem?, Array.getElem?_replicate]
    split <;> rfl
  have e1 : ∀ k, refT l.toArray V t (fun j => (Array.replicate l.toArray.size false).getD j false) k = t := by
    intro k
    induction k with
    | zero => rfl
    | succ k ih => rw [refT, if_neg (by rw [hz]; simp)]; exact ih
  have e2 : ∀ k, refL W L (fun j => (Array.replicate l.toArray.size false).getD j false) k = L := by
    intro k
    induction k with
    | zero => rfl
    | succ k ih => rw [refL, if_neg (by rw [hz]; simp)]; exact ih
  have hx : Ext L w L { w with drawn := w.drawn + 1 } := ⟨rfl, rfl, rfl, Nat.le_refl _, fun _ _ _ => rfl, fun _ _ h => h, fun _ c e fr h => ⟨c, e, fr, h, rfl⟩⟩
  have hlow : ∀ (y : Nat) (o : Oper) (e : Edge), l[y]? = some o → e ∈ o.after → Region.binds .any e = true → e.on < y := by
    intro y o e ho he hb
    rcases Nat.lt_or_ge y (drawN l) with hy | hy
    · exact ordBk_back hB hy (by simpa using ho) e he hb
    · exact drawN_lt l y o e hy ho he hb
  refine draw_anyK (kk := drawN l) (V := V) (W := W) (t := t) (L := L) (by simpa using hkl) ?_ hB hinj ?_ hWall ?_ (fun k o hk ho L' hd hr _ => h3 k o (Nat.zero_le _) hk ho L' hd hr) ?_ _ _ a _ (by simp) ?_ (fun j _ => hz j) ?_ ?_ ?_
  · intro i o hi ho listed hcl hd j hj
    exact (drawN_dep l i j hi (by simpa using (Array.getElem?_eq_some_iff.1 ho).1) (by omega)).listed hcl o ho hd
  · intro k o d hk ho hd
    have hmem : o ∈ l.take (drawN l) := List.mem_of_getElem? (i := k) (by rw [List.getElem?_take_of_lt hk]; simpa using ho)
    have := List.all_eq_true.1 hN o hmem
    rw [hd] at this
    simpa [dok] using this
  · intro k g r hw
    have := hWall k
    rw [hw] at this
    cases hy : (ann.getD k ([], none)).2 with
    | none => rw [hy] at this; cases this
    | some y =>
      rw [hy] at this
      have hg : g = tb y := Option.some.inj this
      rw [hg]
      exact hdom k y hy
  · intro fuel listed a' w' hsz hl hle hs' hx'
    exact suf_run hlow (l.drop (drawN l)) (drawN l) (Nat.le_refl _) rfl fuel listed a' w' hsz hl hle (h4 L0 w0 a' w' hx' hs')
  · intro j oj _ hl
    rw [hz j] at hl
    cases hl
  · have : left l.toArray.size (Array.replicate l.toArray.size false) ≤ (List.range l.toArray.size).length := List.length_filter_le _ _
    simpa using this
  · rw [e1, e2]; exact hs.ext hx (fun g r hg => (hs.rows g r hg).ext hx rfl)
  · rw [e2]; exact he.trans hx
/-! Among the drawn ones new variables, last ones in the text, each for itself. -/
def StepA (P : Program) (N : Nat) (ops : Array Oper) (o : Oper) (d : Nat) (R : Row) : Prop := ∀ (t : TM) (L : GH) (Q : Exit → TM → GH → Prop) (os : List Oper), (∀ g, L g = none → JO P N ops Q os (t.put d (.ptr g 0)) (upd L g R)) → JO P N ops Q (o :: os) t L
theorem stepA_run {P : Program} {N : Nat} {ops : Array Oper} {Q' : Exit → Act → World → Prop} {o : Oper} {t : TM} {L : GH} {R : Row} {a : Act} {w : World} {K : Act → World → Prop} {i d : Nat} (hi : ops[i]? = some o)
    (h : StepA P N ops o d R) (s : Sim N t L a w) (hk : ∀ g a' w', L g = none → Sim N (t.put d (.ptr g 0)) (upd L g R) a' w' → Ext L w (upd L g R) w' → K a' w') : wpOp P ops Q' i K a w := by
  have h1 := h t L (fun e t' L'' => e = .normal ∧ ∃ g, L g = none ∧ t' = t.put d (.ptr g 0) ∧ L'' = upd L g R) [] (fun g hg => JO.nil ⟨rfl, g, hg, rfl, rfl⟩) L w a w (Ext.refl _ _) s
  unfold wpOp
  rw [hi]
  simp only
  unfold wpList at h1
  have lift : ∀ x w', LQ N L w (fun e t' L'' => e = .normal ∧ ∃ g, L g = none ∧ t' = t.put d (.ptr g 0) ∧ L'' = upd L g R) .normal (a.put o.dst x) w' → K (a.put o.dst x) w' := by
    rintro x w' ⟨t', L'', s', x', _, g, hg, rfl, rfl⟩
    exact hk g _ _ hg s' x'
  have noex : ∀ e a' w', LQ N L w (fun e t' L'' => e = .normal ∧ ∃ g, L g = none ∧ t' = t.put d (.ptr g 0) ∧ L'' = upd L g R) e a' w' → e = .normal := by
    rintro e a' w' ⟨_, _, _, _, h2, _⟩
    exact h2
  split at h1
  · rename_i hw
    rw [if_pos hw]
    rcases h1 with h1 | ⟨_, a', w', h2⟩
    · refine .inl (upon_frame lift ?_ noex h1)
      rintro d' w' ⟨t', L'', s', _⟩
      have := s'.df
      cases hdo : o.dst <;> simp [hdo, Act.put] at this
    · exact absurd (noex _ _ _ h2) (by simp)
  · rename_i hw
    rw [if_neg hw]
    exact lift undef w h1
theorem refT_Vm {ops : Array Oper} {V V' : Nat → AV} {t : TM} {m : Nat → Bool} : ∀ k, (∀ j, j < k → m j = true → V j = V' j) → refT ops V t m k = refT ops V' t m k
  | 0, _ => rfl
  | k + 1, h => by
    simp only [refT]
    rw [refT_Vm k fun j hj => h j (by omega)]
    by_cases hm : m k = true
    · rw [h k (by omega) hm]
    · rw [if_neg hm, if_neg hm]
theorem refL_Wm {W W' : Nat → Option (Nat × Row)} {L : GH} {m : Nat → Bool} : ∀ k, (∀ j, j < k → m j = true → W j = W' j) → refL W L m k = refL W' L m k
  | 0, _ => rfl
  | k + 1, h => by
    simp only [refL]
    rw [refL_Wm k fun j hj => h j (by omega)]
    by_cases hm : m k = true
    · rw [h k (by omega) hm]
    · rw [if_neg hm, if_neg hm]
theorem refL_up {W : Nat → Option (Nat × Row)} {L : GH} {m : Nat → Bool} {b : Nat} (h : (L b).isSome = true) : ∀ k, (refL W L m k b).isSome = true
  | 0 => h
  | k + 1 => by
    have ih := refL_up (W := W) (m := m) h k
    simp only [refL]
    split
    · rw [appW_at]
      split
      · split
        · rfl
        · exact ih
      · exact ih
    · exact ih
theorem refL_in {W : Nat → Option (Nat × Row)} {L : GH} {m : Nat → Bool} {b j : Nat} {r : Row} (hm : m j = true) (hw : W j = some (b, r)) : ∀ k, j < k → (refL W L m k b).isSome = true
  | 0, h => absurd h (by omega)
  | k + 1, h => by
    simp only [refL]
    by_cases hk : j = k
    · subst hk
      rw [if_pos hm, appW_at, hw]
      simp
    · have ih := refL_in (L := L) hm hw k (by omega)
      split
      · rw [appW_at]
        split
        · split
          · rfl
          · exact ih
        · exact ih
      · exact ih
def VA (k1 : Nat) (V : Nat → AV) (σ : Nat → Nat) : Nat → AV := fun j => if j < k1 then V j else .ptr (σ j) 0
def WA (k1 : Nat) (W : Nat → Option (Nat × Row)) (R : Nat → Row) (σ : Nat → Nat) : Nat → Option (Nat × Row) := fun j => if j < k1 then W j else some (σ j, R j)
theorem draw_anyA {P : Program} {N : Nat} {ops : Array Oper} {k1 k2 : Nat} {ann : List (List Nat × Option Nat)} {tb : Nat → Nat} {V : Nat → AV} {W : Nat → Option (Nat × Row)} {t : TM} {L : GH} {Q : Exit → TM → GH → Prop} {L0 : GH} {w0 : World} {dA : Nat → Nat} {R : Nat → Row}
    (h12 : k1 ≤ k2) (hkk : k2 ≤ ops.size) (hF : ∀ i o, k2 ≤ i → ops[i]? = some o → ∀ listed : Array Bool, (∀ j oj, ops[j]? = some oj → listed.getD j false = true → ∀ e ∈ oj.after, Region.binds .any e = true → listed.getD e.on false = true) → (∀ e ∈ o.after, Region.binds .any e = true → listed.getD e.on false = true) → ∀ j, j < k2 → listed.getD j false = true)
    (hB : ordBk ops k1 ann = true) (htb : ∀ k x y, x ∈ (ann.getD k ([], none)).1 ∨ (ann.getD k ([], none)).2 = some x → ∀ j, (y ∈ (ann.getD j ([], none)).1 ∨ (ann.getD j ([], none)).2 = some y) → tb x = tb y → x = y)
    (hN : ∀ (k : Nat) (o : Oper) (d : Nat), k < k1 → ops[k]? = some o → o.dst = some d → d < N) (hW : ∀ k, (W k).map (·.1) = (ann.getD k ([], none)).2.map tb) (hWL : ∀ k g r, W k = some (g, r) → (L g).isSome = true)
    (hS : ∀ k o, k < k1 → ops[k]? = some o → ∀ L', (∀ x ∈ (ann.getD k ([], none)).1, (refL W L (fun _ => true) k (tb x)).isSome = true → L' (tb x) = refL W L (fun _ => true) k (tb x)) →
      StepW P N ops o (rst (o.looksAt ops) (refT ops V t (fun _ => true) k)) L' ((rst (o.looksAt ops) (refT ops V t (fun _ => true) k)).putO o.dst (V k)) (appW L' (W k)))
    (hA : ∀ k, k1 ≤ k → k < k2 → ∃ o, ops[k]? = some o ∧ o.dst = some (dA k) ∧ (∀ e ∈ o.after, Region.binds .any e = false) ∧ StepA P N ops o (dA k) (R k))
    (hsep : ∀ k, k1 ≤ k → k < k2 → ∀ j oj, j < k1 → ops[j]? = some oj → (oj.looksAt ops).contains (dA k) = false ∧ oj.dst ≠ some (dA k))
    (hdis : ∀ k k', k1 ≤ k → k < k2 → k1 ≤ k' → k' < k2 → dA k = dA k' → k = k')
    (hQ : ∀ (σ : Nat → Nat), (∀ k, k1 ≤ k → k < k2 → L (σ k) = none) → (∀ k k', k1 ≤ k → k < k2 → k1 ≤ k' → k' < k2 → σ k = σ k' → k = k') → ∀ (fuel : Nat) (listed : Array Bool) (a : Act) (w : World), listed.size = ops.size → (∀ j, listed.getD j false = decide (j < k2)) → left ops.size listed ≤ fuel →
      Sim N (refT ops (VA k1 V σ) t (fun _ => true) k2) (refL (WA k1 W R σ) L (fun _ => true) k2) a w → Ext L0 w0 (refL (WA k1 W R σ) L (fun _ => true) k2) w → wpAny P .any ops (LQ N L0 w0 Q) fuel listed a w) :
    ∀ (fuel : Nat) (σ : Nat → Nat) (listed : Array Bool) (a : Act) (w : World), listed.size = ops.size → (∀ j oj, ops[j]? = some oj → listed.getD j false = true → ∀ e ∈ oj.after, Region.binds .any e = true → listed.getD e.on false = true) → (∀ j, k2 ≤ j → listed.getD j false = false) →
      (∀ k, k1 ≤ k → k < k2 → listed.getD k false = true → L (σ k) = none) → (∀ k k', k1 ≤ k → k < k2 → k1 ≤ k' → k' < k2 → listed.getD k false = true → listed.getD k' false = true → σ k = σ k' → k = k') →
      left ops.size listed ≤ fuel → Sim N (refT ops (VA k1 V σ) t (fun j => listed.getD j false) k2) (refL (WA k1 W R σ) L (fun j => listed.getD j false) k2) a w →
      Ext L0 w0 (refL (WA k1 W R σ) L (fun j => listed.getD j false) k2) w → wpAny P .any ops (LQ N L0 w0 Q) fuel listed a w := by
  have VA1 : ∀ σ j, j < k1 → VA k1 V σ j = V j := fun σ j h => if_pos h
  have VA2 : ∀ σ j, k1 ≤ j → VA k1 V σ j = .ptr (σ j) 0 := fun σ j h => if_neg (by omega)
  have WA1 : ∀ σ j, j < k1 → WA k1 W R σ j = W j := fun σ j h => if_pos h
  have WA2 : ∀ σ j, k1 ≤ j → WA k1 W R σ j = some (σ j, R j) := fun σ j h => if_neg (by omega)
  have fin : ∀ (fuel : Nat) (σ : Nat → Nat) (listed : Array Bool) (a : Act) (w : World), listed.size = ops.size → (∀ j, k2 ≤ j → listed.getD j false = false) →
      (∀ k, k1 ≤ k → k < k2 → listed.getD k false = true → L (σ k) = none) → (∀ k k', k1 ≤ k → k < k2 → k1 ≤ k' → k' < k2 → listed.getD k false = true → listed.getD k' false = true → σ k = σ k' → k = k') →
      (∀ j, j < k2 → listed.getD j false = true) → left ops.size listed ≤ fuel → Sim N (refT ops (VA k1 V σ) t (fun j => listed.getD j false) k2) (refL (WA k1 W R σ) L (fun j => listed.getD j false) k2) a w →
      Ext L0 w0 (refL (WA k1 W R σ) L (fun j => listed.getD j false) k2) w → wpAny P .any ops (LQ N L0 w0 Q) fuel listed a w := by
    intro fuel σ listed a w hsz hsuf hs1 hs2 hall hle hs hx
    have e1 : refT ops (VA k1 V σ) t (fun j => listed.getD j false) k2 = refT ops (VA k1 V σ) t (fun _ => true) k2 := funext fun s => refT_cong _ fun j hj _ => hall j hj
    have e2 : refL (WA k1 W R σ) L (fun j => listed.getD j false) k2 = refL (WA k1 W R σ) L (fun _ => true) k2 := funext fun s => refL_cong _ fun j hj _ => hall j hj
    rw [e1, e2] at hs
    rw [e2] at hx
    refine hQ σ (fun k a b => hs1 k a b (hall k b)) (fun k k' a b c d => hs2 k k' a b c d (hall k b) (hall k' d)) fuel listed a w hsz (fun j => ?_) hle hs hx
    by_cases h : j < k2
    · rw [hall j h, decide_eq_true h]
    · rw [hsuf j (by omega), decide_eq_false h]
  have stuck : ∀ (listed : Array Bool), listed.size = ops.size → Region.ready .any ops listed = [] → ∀ j, j < k2 → listed.getD j false = true := by
    intro listed hsz hr j
    induction j using Nat.strongRecOn with
    | _ j ih =>
      intro hj
      cases hl : listed.getD j false with
      | true => rfl
      | false =>
        exfalso
        have hjs : j < ops.size := by omega
        have : j ∈ Region.ready .any ops listed := by
          rw [mem_ready]
          by_cases hj1 : j < k1
          · refine ⟨by rw [getD_two (hsz ▸ hjs)]; exact hl, ops[j], by simp [hjs], fun e he hb => ?_⟩
            have hlt := ordBk_back hB (j := j) hj1 (by simp [hjs]) e he hb
            exact ih e.on hlt (by omega)
          · obtain ⟨o, ho, -, hno, -⟩ := hA j (by omega) hj
            refine ⟨by rw [getD_two (hsz ▸ hjs)]; exact hl, o, ho, fun e he hb => ?_⟩
            rw [hno e he] at hb
            cases hb
        rw [hr] at this
        cases this
  intro fuel
  induction fuel with
  | zero =>
    intro σ listed a w hsz hcl hsuf hs1 hs2 hle hs hx
    have hall : ∀ j, j < ops.size → listed.getD j true = true := by
      intro j hj
      cases hl : listed.getD j true with
      | true => rfl
      | false =>
        have : j ∈ (List.range ops.size).filter fun i => !listed.getD i true := List.mem_filter.2 ⟨List.mem_range.2 hj, by rw [hl]; rfl⟩
        have := List.length_pos_of_mem this
        unfold left at hle
        omega
    exact fin 0 σ listed a w hsz hsuf hs1 hs2 (fun j hj => by rw [← getD_two (hsz ▸ (by omega : j < ops.size))]; exact hall j (by omega)) hle hs hx
  | succ fuel ih =>
    intro σ listed a w hsz hcl hsuf hs1 hs2 hle hs hx
    by_cases hall : ∀ j, j < k2 → listed.getD j false = true
    · exact fin _ σ listed a w hsz hsuf hs1 hs2 hall hle hs hx
    refine ⟨fun hr => absurd (stuck listed hsz hr) hall, fun i hi => ?_⟩
    obtain ⟨h0, o, ho, hdeps⟩ := mem_ready.1 hi
    have hin : i < ops.size := (Array.getElem?_eq_some_iff.1 ho).1
    have hik2 : i < k2 := Nat.lt_of_not_le fun hle2 => hall (hF i o hle2 ho listed hcl hdeps)
    have h0f : listed.getD i false = false := by rw [← getD_two (hsz ▸ hin)]; exact h0
    have hm' : (fun j => (listed.setIfInBounds i true).getD j false) = fun j => if j = i then true else listed.getD j false := by
      funext j
      by_cases h : j = i
      · subst h; simp [hsz, hin]
      · rw [getD_set_ne false (Ne.symm h), if_neg h]
    have hd0 : (ops[i]?).bind (·.dst) = o.dst := by rw [ho]; rfl
    have dstA : ∀ {j s : Nat}, k1 ≤ j → j < k2 → (ops[j]?).bind (·.dst) = some s → s = dA j := by
      intro j s a b h
      obtain ⟨oj, hoj, hdj, -⟩ := hA j a b
      rw [hoj] at h
      exact (Option.some.inj (hdj.symm.trans h)).symm
    have hcl' : ∀ j oj, ops[j]? = some oj → (listed.setIfInBounds i true).getD j false = true → ∀ e ∈ oj.after, Region.binds .any e = true → (listed.setIfInBounds i true).getD e.on false = true := by
      intro j oj hj hl e he hb
      by_cases hij : i = j
      · subst hij
        obtain rfl : oj = o := Option.some.inj (hj.symm.trans ho)
        exact getD_set_true (hdeps e he hb)
      · rw [getD_set_ne false hij] at hl
        exact getD_set_true (hcl j oj hj hl e he hb)
    have hsuf' : ∀ j, k2 ≤ j → (listed.setIfInBounds i true).getD j false = false := by
      intro j hj
      rw [getD_set_ne false (by omega)]
      exact hsuf j hj
    have hleft : left ops.size (listed.setIfInBounds i true) ≤ fuel := by have := left_set hsz h0; omega
    by_cases hik : i < k1
    · -- one of the drawn ones
      have w1 : ∀ j, waits ops j i = true → listed.getD j false = false := by
        intro j hw
        obtain ⟨oj, hj, e, he, hb, hon⟩ := waits_spec hw
        cases hl : listed.getD j false with
        | false => rfl
        | true =>
          have := hcl j oj hj hl e he hb
          rw [hon, h0f] at this
          cases this
      have w2 : ∀ j, waits ops i j = true → listed.getD j false = true := by
        intro j hw
        obtain ⟨oi, hoi, e, he, hb, hon⟩ := waits_spec hw
        obtain rfl : oi = o := Option.some.inj (hoi.symm.trans ho)
        rw [← hon]
        exact hdeps e he hb
      have dstE : ∀ {j s : Nat}, (ops[j]?).bind (·.dst) = some s → ∃ oj : Oper, ops[j]? = some oj ∧ oj.dst = some s := by
        intro j s h
        cases hj : ops[j]? with
        | none => rw [hj] at h; cases h
        | some oj => rw [hj] at h; exact ⟨oj, rfl, h⟩
      have hag : ∀ s, (o.looksAt ops).contains s = true → refT ops (VA k1 V σ) t (fun j => listed.getD j false) k2 s = refT ops V t (fun _ => true) i s := by
        intro s hsl
        have e0 : refT ops V t (fun _ => true) i = refT ops (VA k1 V σ) t (fun _ => true) i := refT_V i fun j hj => (VA1 σ j (by omega)).symm
        rw [e0, ← refT_upto k2 (by omega)]
        refine refT_cong _ fun j hjk hd => ?_
        by_cases hj1 : j < k1
        · obtain ⟨oj, hoj, hdj⟩ := dstE hd
          rcases Nat.lt_trichotomy j i with h | h | h
          · simp only [h, decide_true]
            cases hw : waits ops i j with
            | true => exact w2 j hw
            | false =>
              have := (ordBk_spec hB h hik hoj ho hw).1 s hdj
              rw [hsl] at this
              cases this.1
          · subst h
            simpa using h0f
          · have : decide (j < i) = false := by simp; omega
            rw [this]
            cases hw : waits ops j i with
            | true => exact w1 j hw
            | false =>
              have := (ordBk_spec hB h hj1 ho hoj hw).2.1 s hdj
              rw [hsl] at this
              cases this
        · have := (hsep j (by omega) hjk i o hik ho).1
          rw [← dstA (by omega) hjk hd, hsl] at this
          cases this
      have wmap : ∀ {j g}, (W j).map (·.1) = some g → ∃ y, (ann.getD j ([], none)).2 = some y ∧ tb y = g := by
        intro j g h
        rw [hW j] at h
        cases hy : (ann.getD j ([], none)).2 with
        | none => rw [hy] at h; cases h
        | some y => rw [hy] at h; exact ⟨y, rfl, Option.some.inj h⟩
      have hagL : ∀ x ∈ (ann.getD i ([], none)).1, (refL W L (fun _ => true) i (tb x)).isSome = true → refL (WA k1 W R σ) L (fun j => listed.getD j false) k2 (tb x) = refL W L (fun _ => true) i (tb x) := by
        intro x hx hsome
        rw [refL_dom hWL] at hsome
        have e0 : refL W L (fun _ => true) i = refL (WA k1 W R σ) L (fun _ => true) i := refL_W i fun j hj => (WA1 σ j (by omega)).symm
        rw [e0, ← refL_upto k2 (by omega)]
        refine refL_cong _ fun j hjk hd => ?_
        by_cases hj1 : j < k1
        · rw [WA1 σ j hj1] at hd
          obtain ⟨oj, hoj⟩ : ∃ oj, ops[j]? = some oj := ⟨ops[j]'(by omega), by simp⟩
          obtain ⟨y, hy, hyx⟩ := wmap hd
          obtain rfl : y = x := htb j y x (.inr hy) i (.inl hx) hyx
          have hc : (ann.getD i ([], none)).1.contains y = true := by simpa using hx
          rcases Nat.lt_trichotomy j i with h | h | h
          · simp only [h, decide_true]
            cases hw : waits ops i j with
            | true => exact w2 j hw
            | false =>
              have := (ordBk_spec hB h hik hoj ho hw).2.2.1 y hy
              rw [hc] at this
              cases this.1
          · subst h
            simpa using h0f
          · have : decide (j < i) = false := by simp; omega
            rw [this]
            cases hw : waits ops j i with
            | true => exact w1 j hw
            | false =>
              have := (ordBk_spec hB h hj1 ho hoj hw).2.2.2 y hy
              rw [hc] at this
              cases this
        · rw [WA2 σ j (by omega)] at hd
          have hd : σ j = tb x := Option.some.inj hd
          have : decide (j < i) = false := by simp; omega
          rw [this]
          cases hl : listed.getD j false with
          | false => rfl
          | true =>
            have := hs1 j (by omega) hjk hl
            rw [hd] at this
            rw [this] at hsome
            cases hsome
      refine stepW_run ho (hN i o · hik ho) (hS i o hik ho _ hagL) hag hs fun a' w' s' x' => ?_
      have eT : refT ops (VA k1 V σ) t (fun j => (listed.setIfInBounds i true).getD j false) k2 = (refT ops (VA k1 V σ) t (fun j => listed.getD j false) k2).putO o.dst (V i) := by
        rw [hm', refT_more h0f k2 hik2, hd0, VA1 σ i hik]
        intro j h1 h2 hd hne
        rw [hd0] at hd hne
        cases hdo : o.dst with
        | none => exact absurd hdo hne
        | some d =>
          rw [hdo] at hd
          by_cases hj1 : j < k1
          · obtain ⟨oj, hoj, hdj⟩ := dstE hd
            cases hw : waits ops j i with
            | true => exact w1 j hw
            | false => exact absurd hdj ((ordBk_spec hB h1 hj1 ho hoj hw).1 d hdo).2
          · have := dstA (by omega) h2 hd
            exact absurd (by rw [hdo, this]) (hsep j (by omega) h2 i o hik ho).2
      have eL : refL (WA k1 W R σ) L (fun j => (listed.setIfInBounds i true).getD j false) k2 = appW (refL (WA k1 W R σ) L (fun j => listed.getD j false) k2) (W i) := by
        rw [hm', refL_more h0f k2 hik2, WA1 σ i hik]
        intro j h1 h2 hd hne
        rw [WA1 σ i hik] at hd hne
        cases hwi : W i with
        | none => rw [hwi] at hne; exact absurd rfl hne
        | some p =>
          obtain ⟨g, r⟩ := p
          rw [hwi] at hd
          by_cases hj1 : j < k1
          · rw [WA1 σ j hj1] at hd
            obtain ⟨x, hx, hxg⟩ := wmap (j := i) (g := g) (by rw [hwi]; rfl)
            obtain ⟨y, hy, hyg⟩ := wmap (j := j) (g := g) hd
            obtain rfl : y = x := htb j y x (.inr hy) i (.inr hx) (hyg.trans hxg.symm)
            obtain ⟨oj, hoj⟩ : ∃ oj, ops[j]? = some oj := ⟨ops[j]'(by omega), by simp⟩
            cases hw : waits ops j i with
            | true => exact w1 j hw
            | false => exact absurd hy ((ordBk_spec hB h1 hj1 ho hoj hw).2.2.1 y hx).2
          · rw [WA2 σ j (by omega)] at hd
            have hd : σ j = g := Option.some.inj hd
            cases hl : listed.getD j false with
            | false => rfl
            | true =>
              have h5 := hs1 j (by omega) h2 hl
              have h6 := hWL i g r hwi
              rw [hd] at h5
              rw [h5] at h6
              cases h6
      have hlk : ∀ k, k1 ≤ k → (listed.setIfInBounds i true).getD k false = listed.getD k false := fun k hk => getD_set_ne false (by omega)
      exact ih σ _ a' w' (by simp [hsz]) hcl' hsuf' (fun k a b c => hs1 k a b (by rw [hlk k a] at c; exact c)) (fun k k' a b c d e f => hs2 k k' a b c d (by rw [hlk k a] at e; exact e) (by rw [hlk k' c] at f; exact f)) hleft (by rw [eT, eL]; exact s') (by rw [eL]; exact hx.trans x')
    · -- a new variable
      obtain ⟨o', ho', hdo, hno, hst⟩ := hA i (by omega) hik2
      obtain rfl : o' = o := Option.some.inj (ho'.symm.trans ho)
      refine stepA_run ho hst hs fun g a' w' hg s' x' => ?_
      have hLg : L g = none := by
        cases h : L g with
        | none => rfl
        | some r =>
          have := refL_up (W := WA k1 W R σ) (m := fun j => listed.getD j false) (b := g) (L := L) (by rw [h]; rfl) k2
          rw [hg] at this
          cases this
      have hne : ∀ j, k1 ≤ j → j < k2 → listed.getD j false = true → σ j ≠ g := by
        intro j a b c e
        have := refL_in (W := WA k1 W R σ) (L := L) (m := fun j => listed.getD j false) (b := g) (j := j) (r := R j) c (by rw [WA2 σ j a, e]) k2 b
        rw [hg] at this
        cases this
      let σ' : Nat → Nat := fun j => if j = i then g else σ j
      have σi : σ' i = g := if_pos rfl
      have σn : ∀ j, j ≠ i → σ' j = σ j := fun j h => if_neg h
      have lne : ∀ j, listed.getD j false = true → j ≠ i := fun j h e => by rw [e, h0f] at h; cases h
      have eT : refT ops (VA k1 V σ') t (fun j => (listed.setIfInBounds i true).getD j false) k2 = (refT ops (VA k1 V σ) t (fun j => listed.getD j false) k2).put (dA i) (.ptr g 0) := by
        rw [hm', refT_more h0f k2 hik2, hd0, hdo, VA2 σ' i (by omega), σi]
        · have : refT ops (VA k1 V σ') t (fun j => listed.getD j false) k2 = refT ops (VA k1 V σ) t (fun j => listed.getD j false) k2 := refT_Vm k2 fun j hj hm => by
            unfold VA
            rw [σn j (lne j hm)]
          rw [this]
          rfl
        · intro j h1 h2 hd _
          rw [hd0, hdo] at hd
          have := dstA (by omega) h2 hd
          exact absurd (hdis i j (by omega) hik2 (by omega) h2 this) (by omega)
      have eL : refL (WA k1 W R σ') L (fun j => (listed.setIfInBounds i true).getD j false) k2 = upd (refL (WA k1 W R σ) L (fun j => listed.getD j false) k2) g (R i) := by
        rw [hm', refL_more h0f k2 hik2, WA2 σ' i (by omega), σi]
        · have : refL (WA k1 W R σ') L (fun j => listed.getD j false) k2 = refL (WA k1 W R σ) L (fun j => listed.getD j false) k2 := refL_Wm k2 fun j hj hm => by
            unfold WA
            rw [σn j (lne j hm)]
          rw [this]
          rfl
        · intro j h1 h2 hd _
          rw [WA2 σ' i (by omega), WA2 σ' j (by omega), σi, σn j (by omega)] at hd
          have hd : σ j = g := Option.some.inj hd
          cases hl : listed.getD j false with
          | false => rfl
          | true => exact absurd hd (hne j (by omega) h2 hl)
      refine ih σ' _ a' w' (by simp [hsz]) hcl' hsuf' (fun k a b c => ?_) (fun k k' a b c d e f h => ?_) hleft (by rw [eT, eL]; exact s') (by rw [eL]; exact hx.trans x')
      · by_cases hk : k = i
        · rw [hk, σi]; exact hLg
        · rw [σn k hk]
          rw [getD_set_ne false (Ne.symm hk)] at c
          exact hs1 k a b c
      · by_cases hk : k = i
        · by_cases hk' : k' = i
          · rw [hk, hk']
          · rw [getD_set_ne false (Ne.symm hk')] at f
            rw [hk, σi, σn k' hk'] at h
            exact absurd h.symm (hne k' c d f)
        · rw [getD_set_ne false (Ne.symm hk)] at e
          by_cases hk' : k' = i
          · rw [hk', σi, σn k hk] at h
            exact absurd h (hne k a b e)
          · rw [getD_set_ne false (Ne.symm hk')] at f
            rw [σn k hk, σn k' hk'] at h
            exact hs2 k k' a b c d e f h

/-- The drawn operations in the text's order, each told of just the slots where it looks. -/
def JN (P : Program) (N : Nat) (ops : Array Oper) (tb : Nat → Nat) : List Oper → List (List Nat × Option Nat) → TM → GH → (TM → GH → Prop) → Prop
  | [], _, t, L, K => K t L
  | o :: os, ann, t, L, K => ∃ v W, W.map (·.1) = (ann.headD ([], none)).2.map tb ∧
      (∀ L', (∀ x ∈ (ann.headD ([], none)).1, (L (tb x)).isSome = true → L' (tb x) = L (tb x)) → StepW P N ops o (rst (o.looksAt ops) t) L' ((rst (o.looksAt ops) t).putO o.dst v) (appW L' W)) ∧
      JN P N ops tb os ann.tail (t.putO o.dst v) (appW L W) K

theorem JN_spec {P : Program} {N : Nat} {ops : Array Oper} {tb : Nat → Nat} {L : GH} {t : TM} {ann : List (List Nat × Option Nat)} {K : TM → GH → Prop} : ∀ (l : List Oper) (k : Nat) (V0 : Nat → AV) (W0 : Nat → Option (Nat × Row)), (∀ j, j < l.length → l[j]? = ops[k + j]?) →
    JN P N ops tb l (ann.drop k) (refT ops V0 t (fun _ => true) k) (refL W0 L (fun _ => true) k) K →
    ∃ V W, (∀ j, j < k ∨ k + l.length ≤ j → V j = V0 j ∧ W j = W0 j) ∧ (∀ j, k ≤ j → j < k + l.length → (W j).map (·.1) = (ann.getD j ([], none)).2.map tb) ∧
      (∀ j o, k ≤ j → j < k + l.length → ops[j]? = some o → ∀ L', (∀ x ∈ (ann.getD j ([], none)).1, (refL W L (fun _ => true) j (tb x)).isSome = true → L' (tb x) = refL W L (fun _ => true) j (tb x)) →
        StepW P N ops o (rst (o.looksAt ops) (refT ops V t (fun _ => true) j)) L' ((rst (o.looksAt ops) (refT ops V t (fun _ => true) j)).putO o.dst (V j)) (appW L' (W j))) ∧
      K (refT ops V t (fun _ => true) (k + l.length)) (refL W L (fun _ => true) (k + l.length))
  | [], k, V0, W0, hl, h => by
    exact ⟨V0, W0, fun _ _ => ⟨rfl, rfl⟩, fun j h1 h2 => by simp at h2; omega, fun j o h1 h2 => by simp at h2; omega, h⟩
  | o :: l, k, V0, W0, hl, h => by
    obtain ⟨v, w, hw, hs, hk⟩ := h
    have h0 : ops[k]? = some o := by simpa using (hl 0 (by simp)).symm
    have hd : (ann.drop k).headD ([], none) = ann.getD k ([], none) := by
      rw [List.getD_eq_getElem?_getD, ← List.head?_drop]
      cases ann.drop k <;> rfl
    rw [hd] at hw hs
    have hV : ∀ j, j < k → (fun j => if j = k then v else V0 j) j = V0 j := fun j hj => by simp; omega
    have hWw : ∀ j, j < k → (fun j => if j = k then w else W0 j) j = W0 j := fun j hj => by simp; omega
    have eT : refT ops (fun j => if j = k then v else V0 j) t (fun _ => true) (k + 1) = (refT ops V0 t (fun _ => true) k).putO o.dst v := by
      simp only [refT, if_true, h0, Option.bind_some]
      rw [refT_V k hV]
    have eL : refL (fun j => if j = k then w else W0 j) L (fun _ => true) (k + 1) = appW (refL W0 L (fun _ => true) k) w := by
      simp only [refL, if_true]
      rw [refL_W k hWw]
    rw [List.tail_drop] at hk
    rw [← eT, ← eL] at hk
    obtain ⟨V, W, h1, h2, h3, h4⟩ := JN_spec l (k + 1) _ _ (fun j hj => by have := hl (j + 1) (by simpa using hj); simpa [Nat.add_assoc, Nat.add_comm 1 j] using this) hk
    have hVk : V k = v := by have := (h1 k (.inl (by omega))).1; simpa using this
    have hWk : W k = w := by have := (h1 k (.inl (by omega))).2; simpa using this
    have hVb : ∀ j, j < k → V0 j = V j := fun j hj => by
      have := (h1 j (.inl (by omega))).1
      rw [this]; simp; omega
    have hWb : ∀ j, j < k → W0 j = W j := fun j hj => by
      have := (h1 j (.inl (by omega))).2
      rw [this]; simp; omega
    refine ⟨V, W, fun j hj => ?_, fun j hj hj2 => ?_, fun j oj hj hjl hoj => ?_, ?_⟩
    · have hj' : j < k + 1 ∨ k + 1 + l.length ≤ j := by
        simp only [List.length_cons] at hj
        omega
      have := h1 j hj'
      have hne : j ≠ k := by
        simp only [List.length_cons] at hj
        omega
      simpa [hne] using this
    · by_cases hjk : j = k
      · subst hjk
        rw [hWk]; exact hw
      · exact h2 j (by omega) (by simp only [List.length_cons] at hj2; omega)
    · by_cases hjk : j = k
      · subst hjk
        obtain rfl : oj = o := Option.some.inj (hoj.symm.trans h0)
        rw [hVk, hWk, ← refT_V j hVb, ← refL_W j hWb]
        exact hs
      · exact h3 j oj (by omega) (by simp only [List.length_cons] at hjl; omega) hoj
    · rw [show k + (o :: l).length = k + 1 + l.length by simp only [List.length_cons]; omega]
      exact h4

/-- How many new variables stand at the end. -/
def isAl : Oper → Bool
  | ⟨some _, .alloc _, _, _, af, none⟩ => af.all fun e => !Region.binds .any e
  | _ => false
def dropAl (l : List Oper) : Nat → Nat
  | 0 => 0
  | n + 1 => match l[n]? with
    | some o => match isAl o with
      | true => dropAl l n
      | false => n + 1
    | none => n + 1
theorem dropAl_le (l : List Oper) : ∀ n, dropAl l n ≤ n
  | 0 => Nat.le_refl _
  | n + 1 => by
    have := dropAl_le l n
    unfold dropAl
    split
    · split <;> omega
    · omega
theorem dropAl_is (l : List Oper) : ∀ n i, dropAl l n ≤ i → i < n → ∃ o, l[i]? = some o ∧ isAl o = true
  | 0, i, _, h => absurd h (by omega)
  | n + 1, i, h1, h2 => by
    unfold dropAl at h1
    split at h1
    · rename_i o ho
      split at h1
      · rename_i ha
        by_cases hi : i = n
        · rw [hi]; exact ⟨o, ho, ha⟩
        · exact dropAl_is l n i h1 (by omega)
      · omega
    · omega
/-- The new variables' slots: looked at by none of the drawn ones, put by none of them, unlike. -/
def sepA (ops : Array Oper) (pre : List Oper) : List Oper → Bool
  | [] => true
  | o :: os => (match o.dst with
    | some d => (pre.all fun p => !(p.looksAt ops).contains d && p.dst != some d) && os.all fun q => q.dst != some d
    | none => false) && sepA ops pre os

/-- What is told behind the new variables. -/
def finT (dA σ : Nat → Nat) : Nat → Nat → TM → TM
  | _, 0, t => t
  | k, n + 1, t => finT dA σ (k + 1) n (t.put (dA k) (.ptr (σ k) 0))
def finL (R : Nat → Row) (σ : Nat → Nat) : Nat → Nat → GH → GH
  | _, 0, L => L
  | k, n + 1, L => finL R σ (k + 1) n (upd L (σ k) (R k))
theorem finT_snoc (dA σ : Nat → Nat) : ∀ (n k : Nat) (t : TM), finT dA σ k (n + 1) t = (finT dA σ k n t).put (dA (k + n)) (.ptr (σ (k + n)) 0)
  | 0, k, t => rfl
  | n + 1, k, t => by
    rw [finT, finT_snoc dA σ n (k + 1), finT, show k + 1 + n = k + (n + 1) by omega]
theorem finL_snoc (R : Nat → Row) (σ : Nat → Nat) : ∀ (n k : Nat) (L : GH), finL R σ k (n + 1) L = upd (finL R σ k n L) (σ (k + n)) (R (k + n))
  | 0, k, L => rfl
  | n + 1, k, L => by
    rw [finL, finL_snoc R σ n (k + 1), finL, show k + 1 + n = k + (n + 1) by omega]
theorem sepA_spec {ops : Array Oper} {pre : List Oper} : ∀ {l : List Oper}, sepA ops pre l = true → ∀ (i : Nat) (o : Oper), l[i]? = some o → ∃ d, o.dst = some d ∧ (∀ p ∈ pre, (p.looksAt ops).contains d = false ∧ p.dst ≠ some d) ∧ ∀ (j : Nat) (q : Oper), i < j → l[j]? = some q → q.dst ≠ some d
  | [], _, i, o, h => by simp at h
  | o' :: l, hs, i, o, h => by
    unfold sepA at hs
    rw [Bool.and_eq_true] at hs
    cases i with
    | zero =>
      obtain rfl : o' = o := by simpa using h
      cases hd : o'.dst with
      | none => rw [hd] at hs; exact absurd hs.1 (by simp)
      | some d =>
        rw [hd] at hs
        simp only [Bool.and_eq_true] at hs
        refine ⟨d, rfl, fun p hp => ?_, fun j q hj hq => ?_⟩
        · have := List.all_eq_true.1 hs.1.1 p hp
          simp only [Bool.and_eq_true, Bool.not_eq_true', bne_iff_ne, ne_eq] at this
          exact this
        · obtain ⟨j', rfl⟩ : ∃ j', j = j' + 1 := ⟨j - 1, by omega⟩
          have := List.all_eq_true.1 hs.1.2 q (List.mem_of_getElem? (by simpa using hq))
          simpa using this
    | succ i =>
      obtain ⟨d, h1, h2, h3⟩ := sepA_spec hs.2 i o (by simpa using h)
      refine ⟨d, h1, h2, fun j q hj hq => ?_⟩
      obtain ⟨j', rfl⟩ : ∃ j', j = j' + 1 := ⟨j - 1, by omega⟩
      exact h3 j' q (by omega) (by simpa using hq)
def dstAt (l : List Oper) (k : Nat) : Nat := match l[k]? with
  | some o => o.dst.getD 0
  | none => 0
/-- A region of which just the first operations are drawn, the last ones of them new variables. -/
theorem J.drawA {P : Program} {N id : Nat} {l : List Oper} {Q : Exit → TM → GH → Prop} {t : TM} {L : GH} (tb : Nat → Nat) (ann : List (List Nat × Option Nat)) (k1 : Nat) (R : Nat → Row) (hm : P.follows .mixedOrders = true) (hk1 : k1 ≤ drawN l)
    (hal0 : ∀ i, k1 ≤ i → i < drawN l → ∃ o, l[i]? = some o ∧ isAl o = true ∧ StepA P N l.toArray o (dstAt l i) (R i)) (hB : ordBk l.toArray k1 ann = true) (hsep : sepA l.toArray (l.take k1) ((l.take (drawN l)).drop k1) = true)
    (hN : ((l.take k1).all fun o => dok N o.dst) = true) (hal : ann.length = (l.take k1).length) (hinj : ∀ k x y, x ∈ (ann.getD k ([], none)).1 ∨ (ann.getD k ([], none)).2 = some x → ∀ j, (y ∈ (ann.getD j ([], none)).1 ∨ (ann.getD j ([], none)).2 = some y) → tb x = tb y → x = y)
    (hdom : ∀ k x, (ann.getD k ([], none)).2 = some x → (L (tb x)).isSome = true)
    (h : JN P N l.toArray tb (l.take k1) ann t L (fun t' L' => ∀ σ : Nat → Nat, (∀ k, k1 ≤ k → k < drawN l → L' (σ k) = none) → (∀ k k', k1 ≤ k → k < drawN l → k1 ≤ k' → k' < drawN l → σ k = σ k' → k = k') →
      JO P N l.toArray Q (l.drop (drawN l)) (finT (dstAt l) σ k1 (drawN l - k1) t') (finL R σ k1 (drawN l - k1) L'))) : J P N (.region id l.toArray true) Q t L := by
  intro L0 w0 a w he hs
  have hkl := drawN_le l
  have htl : (l.take k1).length = k1 := by rw [List.length_take]; omega
  obtain ⟨V, W, h1, h2, h3, h4⟩ := JN_spec (ops := l.toArray) (ann := ann) (t := t) (L := L) (l.take k1) 0 (fun _ => .top) (fun _ => none) (fun j hj => by rw [htl] at hj; rw [List.getElem?_take_of_lt hj]; simp) h
  simp only [Nat.zero_add, htl] at h1 h2 h3 h4
  have hWall : ∀ k, (W k).map (·.1) = (ann.getD k ([], none)).2.map tb := by
    intro k
    by_cases hk : k < k1
    · exact h2 k (Nat.zero_le _) hk
    · have e := (h1 k (.inr (by omega))).2
      rw [e]
      rw [List.getD_eq_getElem?_getD, List.getElem?_eq_none (by omega)]
      rfl
  refine wp_region_any hm ?_
  have hz : ∀ j, (Array.replicate l.toArray.size false).getD j false = false := by
    intro j
    rw [Array.getD_eq_getD_getElem?, Array.getElem?_replicate]
    split <;> rfl
  have e1 : ∀ V k, refT l.toArray V t (fun j => (Array.replicate l.toArray.size false).getD j false) k = t := by
    intro V k
    induction k with
    | zero => rfl
    | succ k ih => rw [refT, if_neg (by rw [hz]; simp)]; exact ih
  have e2 : ∀ W k, refL W L (fun j => (Array.replicate l.toArray.size false).getD j false) k = L := by
    intro W k
    induction k with
    | zero => rfl
    | succ k ih => rw [refL, if_neg (by rw [hz]; simp)]; exact ih
  have hx : Ext L w L { w with drawn := w.drawn + 1 } := ⟨rfl, rfl, rfl, Nat.le_refl _, fun _ _ _ => rfl, fun _ _ h => h, fun _ c e fr h => ⟨c, e, fr, h, rfl⟩⟩
  have hA : ∀ k, k1 ≤ k → k < drawN l → ∃ o, l.toArray[k]? = some o ∧ o.dst = some (dstAt l k) ∧ (∀ e ∈ o.after, Region.binds .any e = false) ∧ StepA P N l.toArray o (dstAt l k) (R k) := by
    intro k hk hk2
    obtain ⟨o, ho, ha, hst⟩ := hal0 k hk hk2
    refine ⟨o, by simpa using ho, ?_, ?_, hst⟩
    · unfold isAl at ha
      split at ha
      · unfold dstAt
        rw [ho]
        rfl
      · cases ha
    · unfold isAl at ha
      split at ha
      · intro e he
        have := Array.all_eq_true'.1 ha e he
        simpa using this
      · cases ha
  have hAi : ∀ k, k1 ≤ k → k < drawN l → ∀ o, l[k]? = some o → ((l.take (drawN l)).drop k1)[k - k1]? = some o := by
    intro k hk hk2 o ho
    rw [List.getElem?_drop, show k1 + (k - k1) = k by omega, List.getElem?_take_of_lt hk2]
    exact ho
  have hlow : ∀ (y : Nat) (o : Oper) (e : Edge), l[y]? = some o → e ∈ o.after → Region.binds .any e = true → e.on < y := by
    intro y o e ho he hb
    rcases Nat.lt_or_ge y k1 with hy | hy
    · exact ordBk_back hB hy (by simpa using ho) e he hb
    · rcases Nat.lt_or_ge y (drawN l) with hy2 | hy2
      · obtain ⟨o', ho', -, hno, -⟩ := hA y hy hy2
        obtain rfl : o' = o := Option.some.inj (ho'.symm.trans (by simpa using ho))
        rw [hno e he] at hb
        cases hb
      · exact drawN_lt l y o e hy2 ho he hb
  refine draw_anyA (k1 := k1) (k2 := drawN l) (V := V) (W := W) (t := t) (L := L) (dA := dstAt l) (R := R) hk1 (by simpa using hkl) ?_ hB hinj ?_ hWall ?_ (fun k o hk ho L' hr => h3 k o (Nat.zero_le _) hk ho L' hr) hA ?_ ?_ ?_ _ (fun _ => 0) _ a _ (by simp) ?_ (fun j _ => hz j) (fun k _ _ h => by rw [hz] at h; cases h) (fun k k' _ _ _ _ h => by rw [hz] at h; cases h) ?_ ?_ ?_
  · intro i o hi ho listed hcl hd j hj
    exact (drawN_dep l i j hi (by simpa using (Array.getElem?_eq_some_iff.1 ho).1) (by omega)).listed hcl o ho hd
  · intro k o d hk ho hd
    have hmem : o ∈ l.take k1 := List.mem_of_getElem? (i := k) (by rw [List.getElem?_take_of_lt hk]; simpa using ho)
    have := List.all_eq_true.1 hN o hmem
    rw [hd] at this
    simpa [dok] using this
  · intro k g r hw
    have := hWall k
    rw [hw] at this
    cases hy : (ann.getD k ([], none)).2 with
    | none => rw [hy] at this; cases this
    | some y =>
      rw [hy] at this
      have hg : g = tb y := Option.some.inj this
      rw [hg]
      exact hdom k y hy
  · intro k hk hk2 j oj hj hoj
    obtain ⟨o, ho, hdo, -, -⟩ := hA k hk hk2
    obtain ⟨d, hd, hp, -⟩ := sepA_spec hsep _ o (hAi k hk hk2 o (by simpa using ho))
    obtain rfl : d = dstAt l k := Option.some.inj (hd.symm.trans hdo)
    exact hp oj (List.mem_of_getElem? (i := j) (by rw [List.getElem?_take_of_lt hj]; simpa using hoj))
  · intro k k' a1 a2 b1 b2 e
    obtain ⟨o, ho, hdo, -, -⟩ := hA k a1 a2
    obtain ⟨o', ho', hdo', -, -⟩ := hA k' b1 b2
    obtain ⟨d, hd, -, hp⟩ := sepA_spec hsep _ o (hAi k a1 a2 o (by simpa using ho))
    obtain ⟨d', hd', -, hp'⟩ := sepA_spec hsep _ o' (hAi k' b1 b2 o' (by simpa using ho'))
    rcases Nat.lt_trichotomy k k' with hlt | hlt | hlt
    · have := hp (k' - k1) o' (by omega) (hAi k' b1 b2 o' (by simpa using ho'))
      exact absurd (by rw [hdo', ← e, ← hdo, hd]) this
    · exact hlt
    · have := hp' (k - k1) o (by omega) (hAi k a1 a2 o (by simpa using ho))
      exact absurd (by rw [hdo, e, ← hdo', hd']) this
  · intro σ hs1 hs2 fuel listed a' w' hsz hl hle hs' hx'
    have key : ∀ n, k1 + n ≤ drawN l → refT l.toArray (VA k1 V σ) t (fun _ => true) (k1 + n) = finT (dstAt l) σ k1 n (refT l.toArray V t (fun _ => true) k1) ∧ refL (WA k1 W R σ) L (fun _ => true) (k1 + n) = finL R σ k1 n (refL W L (fun _ => true) k1) := by
      intro n
      induction n with
      | zero => intro _; exact ⟨refT_V k1 fun j hj => if_pos hj, refL_W k1 fun j hj => if_pos hj⟩
      | succ n ih =>
        intro hn
        obtain ⟨i1, i2⟩ := ih (by omega)
        obtain ⟨o, ho, hdo, -, -⟩ := hA (k1 + n) (by omega) (by omega)
        constructor
        · rw [← Nat.add_assoc, refT, if_pos rfl, i1, ho]
          show (finT (dstAt l) σ k1 n _).putO o.dst _ = _
          rw [hdo, finT_snoc]
          show (finT (dstAt l) σ k1 n _).put _ (VA k1 V σ (k1 + n)) = _
          rw [show VA k1 V σ (k1 + n) = .ptr (σ (k1 + n)) 0 from if_neg (by omega)]
        · rw [← Nat.add_assoc, refL, if_pos rfl, i2]
          rw [show WA k1 W R σ (k1 + n) = some (σ (k1 + n), R (k1 + n)) from if_neg (by omega), finL_snoc]
          rfl
    obtain ⟨q1, q2⟩ := key (drawN l - k1) (by omega)
    rw [show k1 + (drawN l - k1) = drawN l by omega] at q1 q2
    rw [q1, q2] at hs'
    rw [q2] at hx'
    have hno : ∀ k, k1 ≤ k → k < drawN l → refL W L (fun _ => true) k1 (σ k) = none := by
      intro k a1 a2
      have hWL : ∀ k g r, W k = some (g, r) → (L g).isSome = true := by
        intro k g r hw
        have := hWall k
        rw [hw] at this
        cases hy : (ann.getD k ([], none)).2 with
        | none => rw [hy] at this; cases this
        | some y =>
          rw [hy] at this
          have hg : g = tb y := Option.some.inj this
          rw [hg]
          exact hdom k y hy
      have := refL_dom (m := fun _ => true) hWL k1 (σ k)
      rw [hs1 k a1 a2] at this
      cases hq : refL W L (fun _ => true) k1 (σ k) with
      | none => rfl
      | some r => rw [hq] at this; cases this
    exact suf_run hlow (l.drop (drawN l)) (drawN l) (Nat.le_refl _) rfl fuel listed a' w' hsz hl hle (h4 σ hno hs2 L0 w0 a' w' hx' hs')
  · intro j oj _ hl
    rw [hz j] at hl
    cases hl
  · have : left l.toArray.size (Array.replicate l.toArray.size false) ≤ (List.range l.toArray.size).length := List.length_filter_le _ _
    simpa using this
  · rw [e1, e2]; exact hs.ext hx (fun g r hg => (hs.rows g r hg).ext hx rfl)
  · rw [e2]; exact he.trans hx
end Go.Proofs.YtljgkjkdmoejfaaAv
