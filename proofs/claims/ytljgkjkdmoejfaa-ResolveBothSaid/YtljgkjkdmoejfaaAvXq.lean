/-
  SYMBOLIC RUNS over the model (own framework, part 19): slices' literals, cuts, conversions, calls; all operations that make no block.
-/
import Derived.Test.YtljgkjkdmoejfaaAvXp
set_option linter.unusedVariables false
set_option linter.unusedSimpArgs false
namespace Go.Proofs.YtljgkjkdmoejfaaAv
open Go Go.RowKit

section
variable {P : Program} {N : Nat} {ops : Array Oper} {d : Option Nat} {ty : TypeId} {pos : String} {af : Array Edge} {op : Op} {ρ : Rho} {h : List (Nat × XRow)} {rows : Nat → Row} {val : Operand → AV} {v : XV} {tch : List Nat}

theorem JO.convStr {Q : Exit → TM → GH → Prop} {os : List Oper} {t : TM} {L : GH} {S T : TypeId} {x : Operand} {b : ByteArray} (hS : P.underlying S = some .string) (hT : P.underlying T = some .string) (hx : ev t x = .p (.string b)) (hd : dok N d = true)
    (K : JO P N ops Q os (t.putO d (.p (.string b))) L) : JO P N ops Q (⟨d, .convert S T x, ty, pos, af, none⟩ :: os) t L :=
  JO.still hd (fun a w s => by
    have e1 := s.ev x
    rw [hx] at e1
    simp only [VS] at e1
    refine ⟨.string b, ?_, by simp [VS]⟩
    simp [execOp, e1, convert, run_underlying hS, run_underlying hT]) K

theorem xconv_ok {X : Cx} (hX : X.ok P) {S T : TypeId} {x : Operand} {a : XV} {cs : List Prop} (hb : xconv X S T a = some (cs, v)) (hc : ∀ p ∈ cs, p) (hx : RV ρ a (val x)) (hd : dok N d = true) :
    OpOk P N ops d ty pos af (.convert S T x) ρ h rows val tch v none := by
  unfold xconv at hb
  split at hb
  · rename_i k0 k k' i hs ht
    simp only [RV] at hx
    split at hb
    · simp only [Option.some.injEq, Prod.mk.injEq] at hb
      obtain ⟨rfl, rfl⟩ := hb
      have := all1 hc
      refine OpOk.pure _ (RV.v _ _) fun t L he Q os K => JO.convInt (okU_fnd hX.U hs) (okU_fnd hX.U ht) (by rw [he x (by simp [Op.operands]), hx]) hd ?_
      rw [wrap64_in this.1 this.2]
      exact K
    · simp only [Option.some.injEq, Prod.mk.injEq] at hb
      obtain ⟨-, rfl⟩ := hb
      exact OpOk.pure _ (RV.v _ _) fun t L he Q os K => JO.convInt (okU_fnd hX.U hs) (okU_fnd hX.U ht) (by rw [he x (by simp [Op.operands]), hx]) hd K
  · rename_i b hs ht
    simp only [RV] at hx
    simp only [Option.some.injEq, Prod.mk.injEq] at hb
    obtain ⟨-, rfl⟩ := hb
    exact OpOk.pure _ (RV.v _ _) fun t L he Q os K => JO.convStr (okU_fnd hX.U hs) (okU_fnd hX.U ht) (by rw [he x (by simp [Op.operands]), hx]) hd K
  · cases hb

theorem xlenV_ok {X : Cx} (hX : X.ok P) {T : TypeId} {x : Operand} {a : XV} {c : Call} (hcc : c.callee = .builtin .len) (hca : c.args.toList = [x]) (hct : c.argTypes.toList = [T]) (hb : xlenV X T a = some v) (hx : RV ρ a (val x)) (hd : dok N d = true) :
    OpOk P N ops d ty pos af (.call c) ρ h rows val tch v none := by
  obtain ⟨ce, ar, at'⟩ := c
  simp only at hcc hca hct
  subst hcc
  have h1 : ar = #[x] := by rw [← Array.toArray_toList (xs := ar), hca]
  have h2 : at' = #[T] := by rw [← Array.toArray_toList (xs := at'), hct]
  subst h1 h2
  have hop : ∀ t : TM, (∀ y ∈ (Op.call { callee := .builtin .len, args := #[x], argTypes := #[T] }).operands.toList, ev t y = val y) → ev t x = val x := fun t ht => ht x (by simp [Op.operands, Call.operands])
  unfold xlenV at hb
  split at hb
  · split at hb
    · rename_i hs
      simp only [Option.some.injEq] at hb
      subst hb
      simp only [RV] at hx
      unfold strB at hs
      split at hs
      · rename_i hu
        exact OpOk.pure _ (RV.v _ _) fun t L ht Q os K => JO.lenStr (okU_fnd hX.U hu) (by rw [hop t ht, hx]) hd K
      · cases hs
    · cases hb
  · split at hb
    · rename_i hu
      simp only [Option.some.injEq] at hb
      subst hb
      simp only [RV] at hx
      exact OpOk.pure _ (RV.v _ _) fun t L ht Q os K => JO.lenSl (okU_fnd hX.U hu) (by rw [hop t ht, hx]; rfl) hd K
    · cases hb
  · split at hb
    · rename_i hu
      simp only [Option.some.injEq] at hb
      subst hb
      simp only [RV, toAV] at hx
      exact OpOk.pure _ (RV.v _ _) fun t L ht Q os K => JO.lenSl (okU_fnd hX.U hu) (by rw [hop t ht, hx]; rfl) hd K
    · cases hb
  · split at hb
    · rename_i hu
      simp only [Option.some.injEq] at hb
      subst hb
      simp only [RV] at hx
      rcases hx with ⟨g, _, hx⟩ | ⟨_, rfl, _, hx⟩
      · exact OpOk.pure _ (RV.v _ _) fun t L ht Q os K => JO.lenSl (okU_fnd hX.U hu) (by rw [hop t ht, hx]; rfl) hd K
      · exact OpOk.pure _ (RV.v _ _) fun t L ht Q os K => JO.lenSl (okU_fnd hX.U hu) (by rw [hop t ht, hx]; rfl) hd K
    · cases hb
  · cases hb

theorem seqB_eq : ∀ (l : List (Nat × Operand)) (k : Nat), seqB l k = true → l = ((l.map (·.2)).zipIdx k).map fun p => (p.2, p.1)
  | [], k, _ => rfl
  | (i, x) :: l, k, hs => by
    simp only [seqB, Bool.and_eq_true, beqN, decide_eq_true_eq] at hs
    obtain ⟨rfl, hs⟩ := hs
    simp only [List.map_cons, List.zipIdx_cons]
    rw [← seqB_eq l (i + 1) hs]

theorem vecOf_one {sz : Nat} {g : Nat → List AV} (hl : (g 0).length = sz) : vecOf 1 sz g = g 0 := by
  apply List.ext_getElem?
  intro c
  rcases Nat.lt_or_ge c sz with hc | hc
  · have := vecOf_get (n := 1) (sz := sz) (g := g) (i := 0) (o := c) (by omega) hc
    rw [Nat.zero_mul, Nat.zero_add] at this
    rw [this, List.getD_eq_getElem?_getD, List.getElem?_eq_getElem (by omega)]
    rfl
  · rw [List.getElem?_eq_none (by rw [vecOf_length]; omega), List.getElem?_eq_none (by omega)]
theorem flat_vec {sz : Nat} : ∀ (l : List (Nat × List XV)), eachLen sz l = true → (l.flatMap fun q => toAVL q.2) = vecOf l.length sz fun j => toAVL (nthCells l j)
  | [], _ => by simp [vecOf]
  | (i, cs) :: l, hl => by
    simp only [eachLen, Bool.and_eq_true, beqN, decide_eq_true_eq, xlen_eq] at hl
    have h1 : vecOf 1 sz (fun _ => toAVL cs) = toAVL cs := vecOf_one (g := fun _ => toAVL cs) (by rw [toAVL_length]; exact hl.1)
    rw [List.flatMap_cons, flat_vec l hl.2.2.2, List.length_cons, Nat.add_comm]
    show toAVL cs ++ _ = _
    conv => lhs; rw [← h1]
    rw [vecOf_app]
    apply vecOf_congr
    intro j hj
    rw [bltN]
    cases j with
    | zero => rfl
    | succ j => simp [nthCells]
theorem texts_sel {cs : List XV} : ∀ {l : List ByteArray}, textsX cs = some l → ∀ j, j < cs.length → (cs[j]?) = some (.v (.p (.string (l.getD j ⟨#[]⟩)))) := by
  induction cs with
  | nil => intro l h j hj; cases hj
  | cons x cs ih =>
    intro l h j hj
    unfold textsX at h
    split at h
    · rename_i h0; cases h0
    · rename_i b t heq
      obtain ⟨rfl, rfl⟩ := List.cons.inj heq
      split at h
      · rename_i r hr
        obtain rfl := Option.some.inj h
        cases j with
        | zero => rfl
        | succ j =>
          have := ih hr j (by simpa using hj)
          simpa using this
      · cases h
    · cases h
theorem nils_sel {cs : List XV} (h : nilsX cs = true) : ∀ j, j < cs.length → (cs[j]?) = some (.v (.p (.slice none 0 0))) := by
  induction cs with
  | nil => intro j hj; cases hj
  | cons x cs ih =>
    intro j hj
    unfold nilsX at h
    split at h
    · rename_i h0; cases h0
    · rename_i t heq
      obtain ⟨rfl, rfl⟩ := List.cons.inj heq
      cases j with
      | zero => rfl
      | succ j =>
        have := ih h j (by simpa using hj)
        simpa using this
    · cases h
theorem col_sel {cs : List XV} {g : Nat → XV} (h : colX cs = some g) : ∀ j, j < cs.length → (cs[j]?) = some (g j) := by
  intro j hj
  unfold colX at h
  split at h
  · rename_i l hl
    obtain rfl := Option.some.inj h
    exact bools_sel hl j hj
  · split at h
    · split at h
      · rename_i l hl
        obtain rfl := Option.some.inj h
        exact ints_sel hl j hj
      · cases h
    · split at h
      · rename_i l hl
        obtain rfl := Option.some.inj h
        exact texts_sel hl j hj
      · cases h
    · split at h
      · rename_i hl
        obtain rfl := Option.some.inj h
        exact nils_sel hl j hj
      · cases h
theorem colAt_get (o : Nat) : ∀ (l : List (Nat × List XV)) (j : Nat), j < l.length → (colAt o l)[j]? = some (xget (nthCells l j) o)
  | [], j, h => by cases h
  | (_, cs) :: l, 0, h => rfl
  | (_, cs) :: l, j + 1, h => by
    simp only [colAt, nthCells]
    have := colAt_get o l j (by simpa using h)
    simpa using this
theorem colAt_len (o : Nat) : ∀ (l : List (Nat × List XV)), (colAt o l).length = l.length
  | [] => rfl
  | (_, cs) :: l => by simp [colAt, colAt_len o l]
theorem cols_sel {l : List (Nat × List XV)} {j : Nat} (hj : j < l.length) : ∀ (n o : Nat) (gs : List (Nat → XV)), colsX l n o = some gs → apX j gs = xel (nthCells l j) n o
  | 0, o, gs, h => by
    simp only [colsX, Option.some.injEq] at h
    subst h
    rfl
  | n + 1, o, gs, h => by
    simp only [colsX] at h
    split at h
    · rename_i g gs' h1 h2
      obtain rfl := Option.some.inj h
      have e1 := col_sel h1 j (by rw [colAt_len]; exact hj)
      rw [colAt_get o l j hj] at e1
      simp only [apX, xel]
      rw [cols_sel hj n (o + 1) gs' h2, Option.some.inj e1]
    · cases h
theorem nthCells_mem : ∀ {l : List (Nat × List XV)} {j : Nat}, j < l.length → ∃ i, (i, nthCells l j) ∈ l
  | [], j, h => by cases h
  | (i, cs) :: l, 0, h => ⟨i, by simp [nthCells]⟩
  | (i, cs) :: l, j + 1, h => by
    obtain ⟨i', hi⟩ := nthCells_mem (l := l) (j := j) (by simpa using h)
    exact ⟨i', by simp [nthCells, hi]⟩
theorem eachLen_all {sz : Nat} : ∀ {l : List (Nat × List XV)}, eachLen sz l = true → ∀ q ∈ l, q.2.length = sz ∧ xones q.2 = true ∧ xpure q.2 = true
  | [], _, q, hq => by cases hq
  | (i, cs) :: l, hl, q, hq => by
    simp only [eachLen, Bool.and_eq_true, beqN, decide_eq_true_eq, xlen_eq] at hl
    rcases List.mem_cons.1 hq with rfl | hq
    · exact ⟨hl.1, hl.2.1, hl.2.2.1⟩
    · exact eachLen_all hl.2.2.2 q hq

theorem bsF_eq {sz : Nat} {l : List (Nat × List XV)} (h : eachLen sz l = true) {j : Nat} (hj : j < l.length) : bsF sz l j = nthCells l j := by
  unfold bsF
  split
  · have : j = 0 := by simp at hj; exact hj
    subst this
    rfl
  · cases hg : colsX l sz 0 with
    | some gs =>
      simp only
      rw [cols_sel hj sz 0 gs hg, xel_eq]
      obtain ⟨i, hi⟩ := nthCells_mem hj
      have hlen := (eachLen_all h _ hi).1
      simp only at hlen
      apply List.ext_getElem?
      intro c
      rw [List.getElem?_map]
      rcases Nat.lt_or_ge c sz with hc | hc
      · rw [List.getElem?_range hc, Option.map_some, Nat.zero_add, List.getD_eq_getElem?_getD, List.getElem?_eq_getElem (by omega)]
        rfl
      · rw [List.getElem?_eq_none (by simpa using hc), List.getElem?_eq_none (by omega)]
        rfl
    | none => rfl
theorem flat_bs {sz : Nat} (l : List (Nat × List XV)) (h : eachLen sz l = true) : (l.flatMap fun q => toAVL q.2) = vecOf l.length sz fun j => toAVL (bsF sz l j) := by
  rw [flat_vec l h]
  exact vecOf_congr fun j hj => by rw [bsF_eq h hj]

theorem xlit_ok {X : Cx} (hX : X.ok P) {T el : TypeId} {n sz b : Nat} {z : Value} {parts : Array (Nat × Operand)} {e : Operand → List Prop × XV} (hu : fnd X.U T = some (.slice el)) (hi : fnd X.I el = some (z, sz, b)) (hs : seqB parts.toList 0 = true) (hn : Nat.beq n parts.toList.length = true)
    (hl : eachLen sz (xpartsV e parts.toList).2 = true) (hb : Nat.ble (n * sz) 16777216 = true) (hc : ∀ p ∈ (xpartsV e parts.toList).1, p) (hv : ∀ q ∈ parts.toList, (∀ p ∈ (e q.2).1, p) → RV ρ (e q.2).2 (val q.2)) (hd : dok N d = true) :
    OpOk P N ops d ty pos af (.buildSlice T n parts) ρ h rows val tch (.fz n sz (bsF sz (xpartsV e parts.toList).2)) none := by
  obtain ⟨e1, e2⟩ := xpartsV_ok ρ val parts.toList hv hc
  rw [beqN, decide_eq_true_eq] at hn
  rw [bleN, decide_eq_true_eq] at hb
  have hall := eachLen_all hl
  have hfv := flat_bs _ hl
  rw [e1] at hall hfv
  have hparts : parts = (partsOf (parts.toList.map (·.2))).toArray := by
    have := seqB_eq _ _ hs
    apply Array.ext'
    simpa [partsOf] using this
  have hcell : ∀ q ∈ parts.toList, (val q.2).cells = toAVL (e q.2).2.cells ∧ YtljgkjkdmoejfaaAv.ones (val q.2).cells = true ∧ (val q.2).cells.length = sz := fun q hq => by
    obtain ⟨a1, a2, a3⟩ := hall _ (List.mem_map_of_mem hq)
    obtain ⟨c1, c2⟩ := RV.cells a2 (e2 q hq)
    exact ⟨c1.pure a3, c2, by rw [← c1.length]; exact a1⟩
  have hflat : (parts.toList.map fun q => val q.2).flatMap AV.cells = vecOf n sz fun j => toAVL (bsF sz (xpartsV e parts.toList).2 j) := by
    rw [e1, hn]
    have : (parts.toList.map fun q : Nat × Operand => (q.1, (e q.2).2.cells)).length = parts.toList.length := by simp
    rw [← this, ← hfv, List.flatMap_map, List.flatMap_map]
    have : ∀ l : List (Nat × Operand), (∀ q ∈ l, (val q.2).cells = toAVL (e q.2).2.cells) → l.flatMap (fun q => (val q.2).cells) = l.flatMap fun q => toAVL (e q.2).2.cells := by
      intro l hl
      induction l with
      | nil => rfl
      | cons q l ih => rw [List.flatMap_cons, List.flatMap_cons, hl q (by simp), ih fun q hq => hl q (by simp [hq])]
    exact this _ fun q hq => (hcell q hq).1
  refine OpOk.pure (.fz n (vecOf n sz fun j => toAVL (bsF sz (xpartsV e parts.toList).2 j))) (by simp only [RV, toAV]) fun t L ht Q os K => ?_
  have hop : ∀ q ∈ parts.toList, ev t q.2 = val q.2 := fun q hq => ht q.2 (by
    simp only [Op.operands]
    simpa using ⟨q.1, by simpa using hq⟩)
  have hmap : (parts.toList.map (·.2)).map (ev t) = parts.toList.map fun q => val q.2 := by
    rw [List.map_map]
    exact List.map_congr_left fun q hq => hop q hq
  rw [hparts]
  refine R.litFz (okU_fnd hX.U hu) (okI_fnd hX.I hi) (by rw [hn]; simp) hmap ?_ ?_ hb hflat hd K
  · intro a ha
    obtain ⟨q, hq, rfl⟩ := List.mem_map.1 ha
    exact (hcell q hq).2.1
  · intro a ha
    obtain ⟨q, hq, rfl⟩ := List.mem_map.1 ha
    exact (hcell q hq).2.2

theorem vecOf_cut {n sz l m : Nat} {g : Nat → List AV} (hl : l + m ≤ n) : ((vecOf n sz g).drop (l * sz)).take (m * sz) = vecOf m sz fun j => g (l + j) := by
  apply List.ext_getElem?
  intro c
  rw [List.getElem?_take]
  split
  · rename_i hc
    have hs : 0 < sz := by rcases Nat.eq_zero_or_pos sz with h0 | h0; (rw [h0] at hc; simp at hc); exact h0
    have h1 : (l + m) * sz ≤ n * sz := Nat.mul_le_mul_right _ hl
    rw [Nat.add_mul] at h1
    rw [List.getElem?_drop, vecOf_get' (by omega), vecOf_get' hc]
    rw [Nat.add_comm (l * sz) c, Nat.add_mul_div_right _ _ hs, Nat.add_mul_mod_self_right, Nat.add_comm l]
  · rename_i hc
    rw [List.getElem?_eq_none (by rw [vecOf_length]; omega)]

def IsI (val : Operand → AV) (l dflt : Int) : Option Operand → Prop
  | some x => ∃ k, val x = .p (.int k l)
  | none => l = dflt
theorem optI_ok {e : Operand → List Prop × XV} {dflt : Int} {o : Option Operand} {p : List Prop} {l : Int} (ho : optI e dflt o = some (p, l)) (hc : ∀ q ∈ p, q) (hv : ∀ x, o = some x → (∀ p ∈ (e x).1, p) → RV ρ (e x).2 (val x)) :
    IsI val l dflt o := by
  unfold optI at ho
  cases o with
  | none =>
    simp only [Option.some.injEq, Prod.mk.injEq] at ho
    exact ho.2.symm
  | some x =>
    simp only at ho
    split at ho
    · rename_i q k i heq
      simp only [Option.some.injEq, Prod.mk.injEq] at ho
      obtain ⟨rfl, rfl⟩ := ho
      have := hv x rfl (by rw [heq]; exact hc)
      rw [heq] at this
      simp only [RV] at this
      exact ⟨k, this⟩
    · cases ho

theorem xslice_ok {X : Cx} (hX : X.ok P) {T : TypeId} {x : Operand} {lo hi : Option Operand} {a : XV} {cs : List Prop} {e : Operand → List Prop × XV} (hb : xslice X T e lo hi a = some (cs, v)) (hc : ∀ p ∈ cs, p) (hx : RV ρ a (val x))
    (hv : ∀ y, lo = some y ∨ hi = some y → (∀ p ∈ (e y).1, p) → RV ρ (e y).2 (val y)) (hd : dok N d = true) : OpOk P N ops d ty pos af (.slice T x lo hi none) ρ h rows val tch v none := by
  have hop : ∀ (t : TM) (y : Operand), (∀ y ∈ (Op.slice T x lo hi none).operands.toList, ev t y = val y) → (y = x ∨ lo = some y ∨ hi = some y) → ev t y = val y := by
    intro t y ht hy
    refine ht y ?_
    simp only [Op.operands]
    rcases hy with rfl | rfl | rfl <;> simp
  have conv : ∀ (t : TM) (o : Option Operand) (l dflt : Int), (∀ y ∈ (Op.slice T x lo hi none).operands.toList, ev t y = val y) → (∀ y, o = some y → lo = some y ∨ hi = some y) → IsI val l dflt o →
      IsI (ev t) l dflt o := by
    intro t o l dflt ht ho hm
    cases o with
    | none => exact hm
    | some y =>
      obtain ⟨k, hk⟩ := hm
      exact ⟨k, by rw [hop t y ht (.inr (ho y rfl)), hk]⟩
  unfold xslice at hb
  split at hb
  · rename_i b
    simp only [RV] at hx
    split at hb
    · rename_i p l q hh hs h1 h2
      simp only [Option.some.injEq, Prod.mk.injEq] at hb
      obtain ⟨rfl, rfl⟩ := hb
      have m1 := optI_ok (ρ := ρ) (val := val) h1 (allL hc) fun y hy => hv y (.inl hy)
      have m2 := optI_ok (ρ := ρ) (val := val) h2 (allL (allR hc)) fun y hy => hv y (.inr hy)
      have hc3 := allR (allR hc)
      unfold strB at hs
      split at hs
      · rename_i hu
        exact OpOk.pure _ (RV.v _ _) fun t L ht Q os K => JO.cutStr (okU_fnd hX.U hu) (by rw [hop t x ht (.inl rfl), hx]) (by have := conv t lo l 0 ht (fun y hy => .inl hy) m1; cases lo <;> exact this) (by have := conv t hi hh _ ht (fun y hy => .inr hy) m2; cases hi <;> exact this) hd (all1 hc3) (all2 hc3) (all3 hc3) K
      · cases hs
    · cases hb
  · rename_i n sz f
    simp only [RV, toAV] at hx
    split at hb
    · rename_i el p l q hh hu h1 h2
      split at hb
      · rename_i z s b hi'
        split at hb
        · rename_i hs
          simp only [Option.some.injEq, Prod.mk.injEq] at hb
          obtain ⟨rfl, rfl⟩ := hb
          rw [beqN, decide_eq_true_eq] at hs
          subst hs
          have m1 := optI_ok (ρ := ρ) (val := val) h1 (allL hc) fun y hy => hv y (.inl hy)
          have m2 := optI_ok (ρ := ρ) (val := val) h2 (allL (allR hc)) fun y hy => hv y (.inr hy)
          have hc3 := allR (allR hc)
          have g1 : 0 ≤ l := all1 hc3
          have g2 : l ≤ hh := all2 hc3
          have g3 : hh ≤ n := all3 hc3
          obtain ⟨ti, k1, -, k3, -⟩ := (okI_fnd hX.I hi').get
          subst k3
          refine OpOk.pure (.fz (hh - l).toNat (vecOf (hh - l).toNat ti.size fun j => toAVL (f (l.toNat + j)))) (by simp only [RV, toAV]) fun t L ht Q os K => JO.cutFz (okU_fnd hX.U hu) k1 (by rw [hop t x ht (.inl rfl), hx]) (by have := conv t lo l 0 ht (fun y hy => .inl hy) m1; cases lo <;> exact this) (by have := conv t hi hh _ ht (fun y hy => .inr hy) m2; cases hi <;> exact this) hd g1 g2 g3 (vecOf_length _ _ _) ?_
          rw [vecOf_cut (by omega)]
          exact K
        · cases hb
      · cases hb
    · cases hb
  · cases hb

theorem xargs_ok {e : Operand → List Prop × XV} (ρ : Rho) (val : Operand → AV) : ∀ (l : List Operand), (∀ x ∈ l, (∀ p ∈ (e x).1, p) → RV ρ (e x).2 (val x)) → (∀ p ∈ (xargs e l).1, p) → RVL ρ (xargs e l).2 (l.map val)
  | [], _, _ => by simp [xargs, RVL]
  | x :: l, hv, hc => by
    simp only [xargs] at hc
    simp only [xargs, List.map_cons, RVL]
    exact ⟨hv x (by simp) (allL hc), xargs_ok ρ val l (fun y hy => hv y (by simp [hy])) (allR hc)⟩

theorem xcall_ok {X : Cx} (hX : X.ok P) {c : Call} {f : FuncId} {C : CT} {e : Operand → List Prop × XV} {cs : List Prop} (hcc : c.callee = .value (.func f)) (hC : fnd X.C f = some C) (hb : C (xargs e c.args.toList).2 = some (cs, v)) (hc1 : ∀ p ∈ (xargs e c.args.toList).1, p) (hc2 : ∀ p ∈ cs, p)
    (hv : ∀ x ∈ (Op.call c).operands.toList, (∀ p ∈ (e x).1, p) → RV ρ (e x).2 (val x)) (hd : dok N d = true) : OpOk P N ops d ty pos af (.call c) ρ h rows val tch v none := by
  obtain ⟨ce, ar, at'⟩ := c
  simp only at hcc hb hc1
  subst hcc
  obtain ⟨⟨fn, co, h1, h2, h3⟩, h4⟩ := hX.C f C hC
  have hmem : ∀ x ∈ ar.toList, x ∈ (Op.call { callee := .value (.func f), args := ar, argTypes := at' }).operands.toList := by
    intro x hx
    simp only [Op.operands, Call.operands]
    simp [Array.mem_toList_iff] at hx ⊢
    exact .inr hx
  have hargs := xargs_ok ρ val ar.toList (fun x hx => hv x (hmem x hx)) hc1
  obtain ⟨v', hv', hj⟩ := h4 _ _ _ hb hc2 ρ _ hargs
  refine OpOk.pure v' hv' fun t L ht Q os K => ?_
  have hm : ar.toList.map (ev t) = ar.toList.map val := List.map_congr_left fun x hx => ht x (hmem x hx)
  have := JO.callV (P := P) (N := N) (ops := ops) (Q := Q) (ty := ty) (pos := pos) (af := af) (os := os) (t := t) (L := L) (v := v') (xs := ar.toList) (tys := at') h1 h2 h3 hd (by rw [hm]; exact hj L) K
  simpa using this

theorem xmin_ok {c : Call} {e : Operand → List Prop × XV} (hcc : c.callee = .builtin .min) (hb : xmin (xargs e c.args.toList).2 = some v) (hc1 : ∀ p ∈ (xargs e c.args.toList).1, p)
    (hv : ∀ x ∈ (Op.call c).operands.toList, (∀ p ∈ (e x).1, p) → RV ρ (e x).2 (val x)) (hd : dok N d = true) : OpOk P N ops d ty pos af (.call c) ρ h rows val tch v none := by
  obtain ⟨ce, ar, at'⟩ := c
  simp only at hcc hb hc1
  subst hcc
  have hmem : ∀ x ∈ ar.toList, x ∈ (Op.call { callee := .builtin .min, args := ar, argTypes := at' }).operands.toList := by
    intro x hx
    simp only [Op.operands, Call.operands]
    simp [Array.mem_toList_iff] at hx ⊢
    exact hx
  have hargs := xargs_ok ρ val ar.toList (fun x hx => hv x (hmem x hx)) hc1
  unfold xmin at hb
  split at hb
  · rename_i k a k' b heq
    obtain rfl := Option.some.inj hb
    rw [heq] at hargs
    match hl : ar.toList with
    | [x, y] =>
      rw [hl] at hargs
      simp only [List.map_cons, List.map_nil, RVL, RV, and_true] at hargs
      have hx := hmem x (by rw [hl]; simp)
      have hy := hmem y (by rw [hl]; simp)
      have h1 : ar = #[x, y] := by rw [← Array.toArray_toList (xs := ar), hl]
      subst h1
      exact OpOk.pure _ (RV.v _ _) fun t L ht Q os K => JO.min2 (by rw [ht x hx]; exact hargs.1) (by rw [ht y hy]; exact hargs.2) hd K
    | [] => rw [hl] at hargs; simp [RVL] at hargs
    | [x] => rw [hl] at hargs; simp [RVL] at hargs
    | _ :: _ :: _ :: _ => rw [hl] at hargs; simp [RVL] at hargs
  · rename_i k a k' b k'' c heq
    obtain rfl := Option.some.inj hb
    rw [heq] at hargs
    match hl : ar.toList with
    | [x, y, z] =>
      rw [hl] at hargs
      simp only [List.map_cons, List.map_nil, RVL, RV, and_true] at hargs
      have hx := hmem x (by rw [hl]; simp)
      have hy := hmem y (by rw [hl]; simp)
      have hz := hmem z (by rw [hl]; simp)
      have h1 : ar = #[x, y, z] := by rw [← Array.toArray_toList (xs := ar), hl]
      subst h1
      exact OpOk.pure _ (RV.v _ _) fun t L ht Q os K => JO.min3 (by rw [ht x hx]; exact hargs.1) (by rw [ht y hy]; exact hargs.2.1) (by rw [ht z hz]; exact hargs.2.2) hd K
    | [] => rw [hl] at hargs; simp [RVL] at hargs
    | [x] => rw [hl] at hargs; simp [RVL] at hargs
    | [x, y] => rw [hl] at hargs; simp [RVL] at hargs
    | _ :: _ :: _ :: _ :: _ => rw [hl] at hargs; simp [RVL] at hargs
  · cases hb
theorem xmax_ok {c : Call} {e : Operand → List Prop × XV} (hcc : c.callee = .builtin .max) (hb : xmax (xargs e c.args.toList).2 = some v) (hc1 : ∀ p ∈ (xargs e c.args.toList).1, p)
    (hv : ∀ x ∈ (Op.call c).operands.toList, (∀ p ∈ (e x).1, p) → RV ρ (e x).2 (val x)) (hd : dok N d = true) : OpOk P N ops d ty pos af (.call c) ρ h rows val tch v none := by
  obtain ⟨ce, ar, at'⟩ := c
  simp only at hcc hb hc1
  subst hcc
  have hmem : ∀ x ∈ ar.toList, x ∈ (Op.call { callee := .builtin .max, args := ar, argTypes := at' }).operands.toList := by
    intro x hx
    simp only [Op.operands, Call.operands]
    simp [Array.mem_toList_iff] at hx ⊢
    exact hx
  have hargs := xargs_ok ρ val ar.toList (fun x hx => hv x (hmem x hx)) hc1
  unfold xmax at hb
  split at hb
  · rename_i k a k' b heq
    obtain rfl := Option.some.inj hb
    rw [heq] at hargs
    match hl : ar.toList with
    | [x, y] =>
      rw [hl] at hargs
      simp only [List.map_cons, List.map_nil, RVL, RV, and_true] at hargs
      have hx := hmem x (by rw [hl]; simp)
      have hy := hmem y (by rw [hl]; simp)
      have h1 : ar = #[x, y] := by rw [← Array.toArray_toList (xs := ar), hl]
      subst h1
      exact OpOk.pure _ (RV.v _ _) fun t L ht Q os K => JO.max2 (by rw [ht x hx]; exact hargs.1) (by rw [ht y hy]; exact hargs.2) hd K
    | [] => rw [hl] at hargs; simp [RVL] at hargs
    | [x] => rw [hl] at hargs; simp [RVL] at hargs
    | _ :: _ :: _ :: _ => rw [hl] at hargs; simp [RVL] at hargs
  · cases hb

theorem upd_self {L : GH} {g : Nat} {r : Row} (h : L g = some r) : upd L g r = L := by
  funext b
  simp only [upd]
  split
  · rename_i hb; rw [hb, h]
  · rfl

theorem xcallH_ok {X : Cx} (hX : X.ok P) {c : Call} {f : FuncId} {H : HT} {e : Operand → List Prop × XV} {cs : List Prop} {id : Nat} {rest cells : List XV} {el : TypeId} {ap : Bool} {o : Option (List XV)} (hcc : c.callee = .value (.func f)) (hH : fnd X.H f = some H)
    (ha : (xargs e c.args.toList).2 = .ptr id 0 0 0 :: rest) (hf : findR h id = some (.one el ap cells)) (hb : H cells rest = some (cs, v, o)) (hc1 : ∀ p ∈ (xargs e c.args.toList).1, p) (hc2 : ∀ p ∈ cs, p)
    (hv : ∀ x ∈ (Op.call c).operands.toList, (∀ p ∈ (e x).1, p) → RV ρ (e x).2 (val x)) (hrow : ∀ id ∈ touchX e (.call c), ∀ r, findR h id = some r → ∀ g, ρ id = some (some g) → RRow ρ r (rows id)) (hd : dok N d = true) :
    OpOk P N ops d ty pos af (.call c) ρ h rows val (touchX e (.call c)) v (o.map fun cells' => (id, .one el ap cells')) := by
  obtain ⟨ce, ar, at'⟩ := c
  simp only at hcc ha hc1
  subst hcc
  obtain ⟨⟨fn, co, h1, h2, h3⟩, h4⟩ := hX.H f H hH
  have hmem : ∀ x ∈ ar.toList, x ∈ (Op.call { callee := .value (.func f), args := ar, argTypes := at' }).operands.toList := by
    intro x hx
    simp only [Op.operands, Call.operands]
    simp [Array.mem_toList_iff] at hx ⊢
    exact .inr hx
  have hargs := xargs_ok ρ val ar.toList (fun x hx => hv x (hmem x hx)) hc1
  -- the first argument
  cases hl : ar.toList with
  | nil => rw [hl] at ha; cases ha
  | cons x0 xs =>
    rw [hl] at ha hargs
    simp only [xargs, List.cons.injEq] at ha
    obtain ⟨hx0, hrest⟩ := ha
    simp only [xargs, List.map_cons, RVL, hx0, hrest] at hargs
    obtain ⟨hp, hargs⟩ := hargs
    simp only [RV] at hp
    obtain ⟨g, hg, hp⟩ := hp
    have htch : touchX e (Op.call { callee := .value (.func f), args := ar, argTypes := at' }) = [id] := by
      simp only [touchX, hl, hx0, ptrId]
    have hR := hrow id (by rw [htch]; simp) _ hf g hg
    simp only [RRow] at hR
    obtain ⟨q1, q2, q3⟩ := hR
    obtain ⟨v', row', k1, k2, k3⟩ := h4 cells rest cs v o hb hc2 ρ g (rows id) (xs.map val) q3 hargs
    have hm : ∀ t : TM, (∀ x ∈ (Op.call { callee := .value (.func f), args := ar, argTypes := at' }).operands.toList, ev t x = val x) → ar.toList.map (ev t) = .ptr g 0 :: xs.map val := fun t ht => by
      rw [List.map_congr_left fun x hx => ht x (hmem x hx), hl, List.map_cons, hp]
    have main : ∀ t L, (∀ x ∈ (Op.call { callee := .value (.func f), args := ar, argTypes := at' }).operands.toList, ev t x = val x) → L g = some (rows id) → ∀ Q os, JO P N ops Q os (t.putO d v') (upd L g row') →
        JO P N ops Q (⟨d, .call { callee := .value (.func f), args := ar, argTypes := at' }, ty, pos, af, none⟩ :: os) t L := by
      intro t L ht hL Q os K
      have := JO.call (P := P) (N := N) (ops := ops) (Q := Q) (ty := ty) (pos := pos) (af := af) (os := os) (t := t) (L := L) (xs := ar.toList) (tys := at') (R := fun r L' => r = v' ∧ L' = upd L g row') h1 h2 h3 hd (by rw [hm t ht]; exact k3 L hL) (fun r L' ⟨a, b⟩ => by rw [a, b]; exact K)
      simpa using this
    cases o with
    | none =>
      simp only at k2
      subst k2
      refine ⟨v', none, k1, trivial, fun t L ht hL Q os K => ?_⟩
      have hLg := hL id (by rw [htch]; simp) g hg (by rw [hf]; rfl)
      refine main t L ht hLg Q os ?_
      rw [upd_self hLg]
      exact K
    | some cells' =>
      simp only at k2
      refine ⟨v', some (g, row'), k1, ⟨hg, ?_⟩, fun t L ht hL Q os K => main t L ht (hL id (by rw [htch]; simp) g hg (by rw [hf]; rfl)) Q os K⟩
      simp only [RRow]
      exact ⟨k2.1.trans q1, k2.2.1.trans q2, k2.2.2⟩

theorem xpick_ok {c a b : Operand} {e eT eF : Operand → List Prop × XV} {cs : List Prop} {w : Option (Nat × XRow)} {X : Cx} (hb : xop X h e eT eF (.pick c a b) = some (cs, v, w)) (hc : ∀ p ∈ cs, p)
    (hv : (∀ p ∈ (e c).1, p) → RV ρ (e c).2 (val c))
    (hT : ∀ tb, (∀ p ∈ (e c).1, p) → (e c).2 = .v (.p (.bool tb)) → (tb = true → (∀ p ∈ (eT a).1, p) → RV ρ (eT a).2 (val a)) ∧ (tb = false → (∀ p ∈ (eF b).1, p) → RV ρ (eF b).2 (val b))) (hd : dok N d = true) :
    w = none ∧ OpOk P N ops d ty pos af (.pick c a b) ρ h rows val tch v none := by
  simp only [xop] at hb
  split at hb
  · rename_i t y z h1 h2 h3
    have main : ∀ (u : Bool), (∀ p ∈ (e c).1, p) → (t = true → ev (fun _ => .top) a = .p (.bool u) ∨ (RV ρ (eT a).2 (val a) ∧ y = u)) → (t = false → ev (fun _ => .top) b = .p (.bool u) ∨ (RV ρ (eF b).2 (val b) ∧ z = u)) →
        OpOk P N ops d ty pos af (.pick c a b) ρ h rows val tch (.v (.p (.bool u))) none := by
      intro u hp ha hb
      have hcv := hv hp
      rw [h1] at hcv
      simp only [RV] at hcv
      refine OpOk.fv _ (RV.v _ _) hd fun tm ht => ?_
      have e1 := ht c (by simp [Op.operands])
      have e2 := ht a (by simp [Op.operands])
      have e3 := ht b (by simp [Op.operands])
      have cst : ∀ o : Operand, ev (fun _ => .top) o = .p (.bool u) → ev tm o = .p (.bool u) := by
        intro o ho
        cases o with
        | tmp n => cases ho
        | const v => exact ho
        | global g => exact ho
        | func f => exact ho
      simp only [YtljgkjkdmoejfaaAv.fv, e1, hcv]
      cases t with
      | true =>
        simp only
        rcases ha rfl with ha2 | ⟨ha2, hy⟩
        · rw [cst a ha2]
        · rw [h2] at ha2
          simp only [RV] at ha2
          rw [e2, ha2, hy]
      | false =>
        simp only
        rcases hb rfl with hb2 | ⟨hb2, hy⟩
        · rw [cst b hb2]
        · rw [h3] at hb2
          simp only [RV] at hb2
          rw [e3, hb2, hy]
    have hTT := fun hp => hT t hp h1
    split at hb
    · simp only [Option.some.injEq, Prod.mk.injEq] at hb
      obtain ⟨rfl, rfl, rfl⟩ := hb
      refine ⟨rfl, main _ (allL hc) (fun h => .inl (by rw [h]; rfl)) fun h => .inr ⟨(hTT (allL hc)).2 h fun p hp => ?_, by rw [h]; simp⟩⟩
      exact allR hc _ (List.mem_map_of_mem hp) h
    · simp only [Option.some.injEq, Prod.mk.injEq] at hb
      obtain ⟨rfl, rfl, rfl⟩ := hb
      refine ⟨rfl, main _ (allL hc) (fun h => .inr ⟨(hTT (allL hc)).1 h fun p hp => ?_, by rw [h]; simp⟩) fun h => .inl (by rw [h]; rfl)⟩
      exact allR hc _ (List.mem_map_of_mem hp) h
    · simp only [Option.some.injEq, Prod.mk.injEq] at hb
      obtain ⟨rfl, rfl, rfl⟩ := hb
      refine ⟨rfl, main _ (allL hc) (fun h => .inr ⟨(hTT (allL hc)).1 h fun p hp => ?_, by rw [h]; rfl⟩) fun h => .inr ⟨(hTT (allL hc)).2 h fun p hp => ?_, by rw [h]; rfl⟩⟩
      · exact allL (allR hc) _ (List.mem_map_of_mem hp) h
      · exact allR (allR hc) _ (List.mem_map_of_mem hp) h
  · cases hb

theorem rangeP_eq (s : Nat) : ∀ (n k : Nat), rangeP s k n = (List.range' k n).map fun i => (i * s, s)
  | 0, k => by simp [rangeP]
  | n + 1, k => by simp [rangeP, rangeP_eq s n (k + 1), List.range'_succ]
theorem ltParts_ok {n : Nat} : ∀ {l : List (Nat × Operand)}, ltParts n l = true → ∀ p ∈ l, p.1 < n
  | [], _, p, hp => by cases hp
  | (i, x) :: l, h, p, hp => by
    simp only [ltParts, Bool.and_eq_true, bltN, decide_eq_true_eq] at h
    rcases List.mem_cons.1 hp with rfl | hp
    · exact h.1
    · exact ltParts_ok h.2 p hp
theorem xbuildA_ok {X : Cx} (hX : X.ok P) {T el : TypeId} {parts : Array (Nat × Operand)} {n : Nat} {z z2 : Value} {sz b s2 b2 : Nat} {e : Operand → List Prop × XV} {out : List XV} (hu : fnd X.U T = some (.array n el)) (hi : fnd X.I T = some (z, sz, b)) (hi2 : fnd X.I el = some (z2, s2, b2))
    (hlt : ltParts n parts.toList = true) (ho : xlaid (rangeP s2 0 n) (zcells z) (xpartsV e parts.toList).2 = some out) (hc : ∀ p ∈ (xpartsV e parts.toList).1, p)
    (hv : ∀ q ∈ parts.toList, (∀ p ∈ (e q.2).1, p) → RV ρ (e q.2).2 (val q.2)) (hd : dok N d = true) {tch : List Nat} : OpOk P N ops d ty pos af (.build T parts) ρ h rows val tch (.agg out) none := by
  obtain ⟨e1, e2⟩ := xpartsV_ok ρ val parts.toList hv hc
  rw [e1, rangeP_eq, ← List.range_eq_range'] at ho
  obtain ⟨⟨out', hl, hr⟩, hall⟩ := xlaid_ok (ρ := ρ) _ (parts.toList.map fun q => (q.1, (val q.2).cells)) _ _ _ ho (zcells_ok ρ z) (by simp) (by
    intro i p q h1 h2 h3
    rw [List.getElem?_map] at h1 h2
    cases hq : parts.toList[i]? with
    | none => rw [hq] at h1; cases h1
    | some o =>
      rw [hq] at h1 h2
      obtain rfl := Option.some.inj h1
      obtain rfl := Option.some.inj h2
      exact (RV.cells h3 (e2 o (List.mem_of_getElem? hq))).1)
  refine OpOk.pure (.agg out') (by simp only [RV]; exact ⟨_, rfl, hr⟩) fun t L ht Q os K => ?_
  have hop : ∀ q ∈ parts.toList, ev t q.2 = val q.2 := fun q hq => ht q.2 (by
    simp only [Op.operands]
    simpa using ⟨q.1, by simpa using hq⟩)
  have := JO.buildArr (P := P) (N := N) (ops := ops) (Q := Q) (d := d) (ty := ty) (pos := pos) (af := af) (os := os) (t := t) (L := L) (T := T) (parts := parts.toList) (z := z) (zs := z.cells.toList.map AV.p) (out := out')
    (okU_fnd hX.U hu) (okI_fnd hX.I hi) (okI_fnd hX.I hi2) (ltParts_ok hlt) rfl (fun p hp => by
      rw [hop p hp]
      exact (RV.cells (hall _ (List.mem_map_of_mem hp)) (e2 p hp)).2) (by
      rw [← hl]
      congr 1
      apply List.map_congr_left
      intro q hq
      rw [hop q hq]) hd K
  simpa using this
theorem rowsL_len (s : Nat) : ∀ (n : Nat) (cs : List XV), (rowsL s n cs).length = n
  | 0, _ => rfl
  | n + 1, cs => by simp [rowsL, rowsL_len s n]
theorem rowsL_flat (s : Nat) : ∀ (n : Nat) (cs : List XV), ((rowsL s n cs).flatMap fun q => toAVL q.2) = (toAVL cs).take (n * s)
  | 0, cs => by simp [rowsL]
  | n + 1, cs => by
    simp only [rowsL, List.flatMap_cons]
    rw [rowsL_flat s n, xtake_eq, xdrop_eq, toAVL_map, toAVL_map, toAVL_map, List.map_take, List.map_drop, Nat.add_mul, Nat.one_mul, Nat.add_comm (n * s), List.take_add]
theorem xsliceA_ok {X : Cx} (hX : X.ok P) {T : TypeId} {x : Operand} {lo hi : Option Operand} {a : XV} {cs : List Prop} {e : Operand → List Prop × XV} (hb : xsliceA X h T e lo hi a = some (cs, v)) (hc : ∀ p ∈ cs, p) (hx : RV ρ a (val x))
    (hv : ∀ y, lo = some y ∨ hi = some y → (∀ p ∈ (e y).1, p) → RV ρ (e y).2 (val y)) (hrow : ∀ id, (ptrId a) = [id] → ∀ r, findR h id = some r → ∀ g, ρ id = some (some g) → RRow ρ r (rows id)) (hd : dok N d = true) : OpOk P N ops d ty pos af (.slice T x lo hi none) ρ h rows val (ptrId a) v none := by
  have hop : ∀ (t : TM) (y : Operand), (∀ y ∈ (Op.slice T x lo hi none).operands.toList, ev t y = val y) → (y = x ∨ lo = some y ∨ hi = some y) → ev t y = val y := by
    intro t y ht hy
    refine ht y ?_
    simp only [Op.operands]
    rcases hy with rfl | rfl | rfl <;> simp
  unfold xsliceA at hb
  split at hb
  · rename_i n el hu
    split at hb
    · rename_i z s bb ds hi2
      split at hb
      · rename_i h1 h2
        simp only [Option.some.injEq, Prod.mk.injEq] at hb
        obtain ⟨-, rfl⟩ := hb
        simp only [RV] at hx
        obtain ⟨es, hx⟩ := hx
        rw [bleN, decide_eq_true_eq, xlen_eq] at h1
        obtain ⟨ti, k1, -, k3, -⟩ := (okI_fnd hX.I hi2).get
        subst k3
        have e1 : (toAVL ds ++ es).take (n * ti.size) = vecOf n ti.size fun j => toAVL (bsF ti.size (rowsL ti.size n ds) j) := by
          rw [List.take_append, toAVL_length, show n * ti.size - ds.length = 0 by omega, List.take_zero, List.append_nil, ← rowsL_flat, flat_bs _ h2, rowsL_len]
        refine OpOk.pure (.fz n (vecOf n ti.size fun j => toAVL (bsF ti.size (rowsL ti.size n ds) j))) (by simp only [RV, toAV]) fun t L ht Q os K => JO.sliceFp (okU_fnd hX.U hu) k1 (by rw [hop t x ht (.inl rfl), hx]) hd ?_
        rw [e1]
        exact K
      · cases hb
    · rename_i z bb id o hi2
      split at hb
      · rename_i e2 ap cells p l q hh hf ho1 ho2
        split at hb
        · rename_i hle
          simp only [Option.some.injEq, Prod.mk.injEq] at hb
          obtain ⟨rfl, rfl⟩ := hb
          simp only [RV] at hx
          obtain ⟨g, hg, hx⟩ := hx
          rw [Nat.zero_mul, Nat.zero_add] at hx
          have hR := hrow id rfl _ hf g hg
          simp only [RRow] at hR
          obtain ⟨-, -, hR⟩ := hR
          have hlen := hR.length
          rw [bleN, decide_eq_true_eq, xlen_eq] at hle
          have m1 := optI_ok (ρ := ρ) (val := val) ho1 (allL hc) fun y hy => hv y (.inl hy)
          have m2 := optI_ok (ρ := ρ) (val := val) ho2 (allL (allR hc)) fun y hy => hv y (.inr hy)
          have hc3 := allR (allR hc)
          obtain ⟨ti, k1, -, k3, -⟩ := (okI_fnd hX.I hi2).get
          have conv : ∀ (t : TM) (o : Option Operand) (l dflt : Int), (∀ y ∈ (Op.slice T x lo hi none).operands.toList, ev t y = val y) → (∀ y, o = some y → lo = some y ∨ hi = some y) → IsI val l dflt o →
              IsI (ev t) l dflt o := by
            intro t o l dflt ht ho hm
            cases o with
            | none => exact hm
            | some y =>
              obtain ⟨k, hk⟩ := hm
              exact ⟨k, by rw [hop t y ht (.inr (ho y rfl)), hk]⟩
          refine ⟨.sl g 1 (o + l.toNat) (hh - l).toNat, none, ?_, trivial, fun t L ht hL Q os K => JO.sliceArr (r := rows id) (okU_fnd hX.U hu) k1 k3 (by rw [hop t x ht (.inl rfl), hx]) (hL id (by simp [ptrId]) g hg (by rw [hf]; rfl)) (by omega)
            (by have := conv t lo l 0 ht (fun y hy => .inl hy) m1; cases lo <;> exact this) (by have := conv t hi hh _ ht (fun y hy => .inr hy) m2; cases hi <;> exact this) hd (all1 hc3) (all2 hc3) (all3 hc3) K⟩
          simp only [RV]
          exact .inl ⟨g, hg, by rw [Nat.mul_one]⟩
        · cases hb
      · cases hb
    · cases hb
  · cases hb

/-- Every operation that makes no block does what its symbolic run says. -/
theorem xbinI_ok {X : Cx} (hX : okU P X.U) {bop : BinOp} {T T' : TypeId} {x y : Operand} {a b : XV} (hb : xbinI X bop T (isC x || isC y) a b = some v) (hx : RV ρ a (val x)) (hy : RV ρ b (val y)) (hd : dok N d = true) :
    OpOk P N ops d ty pos af (.binOp bop T x y T') ρ h rows val tch v none := by
  unfold xbinI at hb
  split at hb
  · rename_i ms a' b' hu
    simp only [RV] at hx hy
    split at hb
    · rename_i r hr
      obtain rfl := Option.some.inj hb
      exact OpOk.pure _ (RV.v _ _) fun t L ht Q os k => JO.eqIface (ne := false) (okU_fnd hX hu) hr (by rw [ht x (by simp [Op.operands]), hx]) (by rw [ht y (by simp [Op.operands]), hy]) hd k
    · rename_i r hr
      obtain rfl := Option.some.inj hb
      exact OpOk.pure _ (RV.v _ _) fun t L ht Q os k => JO.eqIface (ne := true) (okU_fnd hX hu) hr (by rw [ht x (by simp [Op.operands]), hx]) (by rw [ht y (by simp [Op.operands]), hy]) hd k
    · cases hb
  · cases hb

theorem bytesL_len : ∀ l : List XV, (bytesL l).length = l.length
  | [] => rfl
  | x :: l => by simp [bytesL, bytesL_len l]
theorem x8L_av : ∀ l : List UInt8, toAVL (x8L l) = l.map byteAV
  | [] => rfl
  | b :: l => by simp only [x8L, toAVL, List.map_cons, x8L_av l]; rfl
theorem RVL_x8 : ∀ {l : List UInt8} {bs : List AV}, RVL ρ (x8L l) bs → bs = l.map byteAV
  | [], bs, h => by cases bs with
    | nil => rfl
    | cons _ _ => simp [x8L, RVL] at h
  | b :: l, bs, h => by
    cases bs with
    | nil => simp [x8L, RVL] at h
    | cons a bs =>
      simp only [x8L, RVL] at h
      obtain ⟨h1, h2⟩ := h
      simp only [X8b, RV] at h1
      rw [h1, RVL_x8 h2]
      rfl
theorem xconvS_ok {X : Cx} (hX : X.ok P) {S T : TypeId} {x : Operand} {a : XV} {cs : List Prop} {b : ByteArray} (hb : xconvS X h S T a = some (cs, b)) (hc : ∀ p ∈ cs, p) (hx : RV ρ a (val x))
    (hrow : ∀ id ∈ slId a, ∀ r, findR h id = some r → ∀ g, ρ id = some (some g) → RRow ρ r (rows id)) (hd : dok N d = true) :
    OpOk P N ops d ty pos af (.convert S T x) ρ h rows val (slId a) (.v (.p (.string b))) none := by
  unfold xconvS at hb
  split at hb
  · rename_i el hS hT
    split at hb
    · rename_i hE
      have kS := okU_fnd hX.U hS
      have kT := okU_fnd hX.U hT
      have kE := okU_fnd hX.U hE
      unfold xstr at hb
      split at hb
      · rename_i n sz f
        split at hb
        · simp only [Option.some.injEq, Prod.mk.injEq] at hb
          obtain ⟨rfl, rfl⟩ := hb
          have hf := all1 hc
          simp only [RV, toAV] at hx
          refine OpOk.pure _ (RV.v _ _) fun t L ht Q os k => JO.strFz kS kT kE (n := n) (by
            rw [ht x (by simp [Op.operands]), hx]
            congr 1
            have e1 : vecOf n 1 (fun i => toAVL (f i)) = vecOf n 1 (fun j => [byteAV (byte1 (xget (f j) 0))]) := vecOf_congr fun j hj => by
              have := congrArg toAVL (hf j hj)
              exact this
            rw [e1]
            unfold vecOf
            rw [Nat.mul_one, List.map_map]
            apply List.map_congr_left
            intro j _
            simp [Nat.mod_one]) (by simp) hd k
        · cases hb
      · rename_i id sz o n
        split at hb
        · rename_i e' ap n' f hr
          simp only [Option.some.injEq, Prod.mk.injEq] at hb
          obtain ⟨rfl, rfl⟩ := hb
          have ho : o + n ≤ n' := hc _ (by simp)
          have hf : ∀ j, j < n → f (o + j) = [X8b (byte1 (xget (f (o + j)) 0))] := hc _ (by simp)
          simp only [RV] at hx
          rcases hx with ⟨g, hg, hx⟩ | ⟨_, rfl, rfl, hx⟩
          · have hk := hrow id (by simp [slId]) _ hr g hg
            simp only [RRow] at hk
            refine ⟨_, none, RV.v _ _, trivial, fun t L ht hL Q os k => JO.strSl kS kT kE (g := g) (off := o * 1) (n := n) (r := rows id) (by rw [ht x (by simp [Op.operands]), hx]) (hL id (by simp [slId]) g hg (by rw [hr]; rfl)) (fun i b hi => ?_) (by simp) hd k⟩
            rw [List.getElem?_map] at hi
            have hin : i < n := by
              refine Nat.lt_of_not_le fun hle => ?_
              rw [List.getElem?_eq_none (by simpa using hle)] at hi
              cases hi
            rw [List.getElem?_range hin] at hi
            obtain rfl := Option.some.inj hi
            rw [hk]
            have := vecOf_get (n := n') (sz := 1) (g := fun i => toAVL (f i)) (i := o + i) (o := 0) (by omega) (by omega)
            rw [show o * 1 + i = (o + i) * 1 + 0 by omega, this, hf i hin]
            rfl
          · refine OpOk.pure _ (RV.v _ _) fun t L ht Q os k => JO.strNil kS kT kE (by rw [ht x (by simp [Op.operands]), hx]) hd k
        · rename_i e' ap cells hr
          simp only [Option.some.injEq, Prod.mk.injEq] at hb
          obtain ⟨rfl, rfl⟩ := hb
          have ho : o + n ≤ xlen cells := hc _ (by simp)
          have hf : xtake n (xdrop o cells) = x8L (bytesL (xtake n (xdrop o cells))) := hc _ (by simp)
          simp only [RV] at hx
          have hlen : (bytesL (xtake n (xdrop o cells))).length = n := by
            rw [bytesL_len, xtake_eq, xdrop_eq, List.length_take, List.length_drop, ← xlen_eq]
            omega
          rcases hx with ⟨g, hg, hx⟩ | ⟨_, rfl, rfl, hx⟩
          · have hk := hrow id (by simp [slId]) _ hr g hg
            simp only [RRow] at hk
            refine ⟨_, none, RV.v _ _, trivial, fun t L ht hL Q os k => JO.strSl kS kT kE (g := g) (off := o * 1) (n := n) (r := rows id) (by rw [ht x (by simp [Op.operands]), hx]) (hL id (by simp [slId]) g hg (by rw [hr]; rfl)) (fun i b hi => ?_) hlen.symm hd k⟩
            have hin : i < n := by
              have := (List.getElem?_eq_some_iff.1 hi).1
              omega
            have h1 : (bytesL (xtake n (xdrop o cells))).map byteAV = ((rows id).cs.drop o).take n := by
              have h2 : RVL ρ (xtake n (xdrop o cells)) (((rows id).cs.drop o).take n) := by
                rw [xtake_eq, xdrop_eq]
                exact RVL.take n (RVL.drop o hk.2.2)
              rw [hf] at h2
              rw [← RVL_x8 h2]
            have h3 := congrArg (·[i]?) h1
            simp only [List.getElem?_map, hi, Option.map_some, List.getElem?_take, List.getElem?_drop] at h3
            rw [if_pos hin] at h3
            rw [Nat.mul_one]
            exact h3.symm
          · refine OpOk.pure _ (RV.v _ _) fun t L ht Q os k => JO.strNil kS kT kE (by rw [ht x (by simp [Op.operands]), hx]) hd k
        · cases hb
      · cases hb
    · cases hb
  · cases hb

theorem xop_ok {X : Cx} (hX : X.ok P) {e eT eF : Operand → List Prop × XV} {cs : List Prop} {w : Option (Nat × XRow)} (hv : ∀ x ∈ op.operands.toList, (∀ p ∈ (e x).1, p) → RV ρ (e x).2 (val x))
    (hT : ∀ c a b, op = .pick c a b → ∀ tb, (∀ p ∈ (e c).1, p) → (e c).2 = .v (.p (.bool tb)) → (tb = true → (∀ p ∈ (eT a).1, p) → RV ρ (eT a).2 (val a)) ∧ (tb = false → (∀ p ∈ (eF b).1, p) → RV ρ (eF b).2 (val b)))
    (hrow : ∀ id ∈ touchX e op, ∀ r, findR h id = some r → ∀ g, ρ id = some (some g) → RRow ρ r (rows id)) (hb : xop X h e eT eF op = some (cs, v, w)) (hc : ∀ p ∈ cs, p) (hd : dok N d = true) (hw : ∀ T x y, op = .store T x y → d = none) :
    OpOk P N ops d ty pos af op ρ h rows val (touchX e op) v w := by
  cases op with
  | move x =>
    simp only [xop, Option.some.injEq, Prod.mk.injEq] at hb
    obtain ⟨rfl, rfl, rfl⟩ := hb
    exact OpOk.fv _ (hv x (by simp [Op.operands]) hc) hd fun t ht => by simp only [YtljgkjkdmoejfaaAv.fv, ht x (by simp [Op.operands])]
  | assign x =>
    simp only [xop, Option.some.injEq, Prod.mk.injEq] at hb
    obtain ⟨rfl, rfl, rfl⟩ := hb
    exact OpOk.fv _ (hv x (by simp [Op.operands]) hc) hd fun t ht => by simp only [YtljgkjkdmoejfaaAv.fv, ht x (by simp [Op.operands])]
  | pick c a b =>
    obtain ⟨rfl, h1⟩ := xpick_ok (P := P) (N := N) (ops := ops) (d := d) (ty := ty) (pos := pos) (af := af) (rows := rows) (tch := touchX e (.pick c a b)) hb hc (hv c (by simp [Op.operands])) (hT c a b rfl) hd
    exact h1
  | binOp bop T x y T' =>
    simp only [xop] at hb
    split at hb
    · split at hb
      · rename_i cs' v' hx
        simp only [Option.some.injEq, Prod.mk.injEq] at hb
        obtain ⟨rfl, rfl, rfl⟩ := hb
        exact xbin_ok hX.U hX.I hX.E hx (allR (allR hc)) (hv x (by simp [Op.operands]) (allL hc)) (hv y (by simp [Op.operands]) (allL (allR hc))) hd
      · split at hb
        · rename_i v' hx
          simp only [Option.some.injEq, Prod.mk.injEq] at hb
          obtain ⟨rfl, rfl, rfl⟩ := hb
          exact xbinI_ok hX.U hx (hv x (by simp [Op.operands]) (allL hc)) (hv y (by simp [Op.operands]) (allR hc)) hd
        · cases hb
    · split at hb
      · rename_i c' v' hx
        simp only [Option.some.injEq, Prod.mk.injEq] at hb
        obtain ⟨rfl, rfl, rfl⟩ := hb
        have h0 : c' := hc c' (by simp)
        have hx' : xbin X bop T (e x).2 (e y).2 = some ([], v') := by
          unfold xsh at hx
          split at hx
          · rename_i k a k' b h1 h2
            rw [h1, h2]
            split at hx
            · simp only [Option.some.injEq, Prod.mk.injEq] at hx
              obtain ⟨rfl, rfl⟩ := hx
              have : ¬ b < 0 := by omega
              simp [xbin, ibx, ishift, this]
            · simp only [Option.some.injEq, Prod.mk.injEq] at hx
              obtain ⟨rfl, rfl⟩ := hx
              have : ¬ b < 0 := by omega
              simp [xbin, ibx, ishift, this]
            · cases hx
          · cases hx
        exact xbin_ok hX.U hX.I hX.E hx' (by simp) (hv x (by simp [Op.operands]) (allL hc)) (hv y (by simp [Op.operands]) (allL (allR hc))) hd
      · cases hb
  | makeInterface T x =>
    simp only [xop] at hb
    split at hb
    · rename_i u hu
      split at hb
      · rename_i z hn hz
        simp only [Option.some.injEq, Prod.mk.injEq] at hb
        obtain ⟨rfl, rfl, rfl⟩ := hb
        have hx := hv x (by simp [Op.operands]) hc
        rw [hz] at hx
        simp only [RV] at hx
        exact OpOk.pure _ (RV.v _ _) fun t L ht Q os k => JO.mkIface (okU_fnd hX.U hu) hn (by rw [ht x (by simp [Op.operands]), hx]) hd k
      · rename_i hn _
        simp only [Option.some.injEq, Prod.mk.injEq] at hb
        obtain ⟨rfl, rfl, rfl⟩ := hb
        exact OpOk.pure _ (RV.v _ _) fun t L ht Q os k => JO.mkIfaceAny (okU_fnd hX.U hu) hn hd k
      · cases hb
    · cases hb
  | unOp uop T x =>
    simp only [xop] at hb
    split at hb
    · rename_i b hx
      simp only [Option.some.injEq, Prod.mk.injEq] at hb
      obtain ⟨rfl, rfl, rfl⟩ := hb
      have := hv x (by simp [Op.operands]) hc
      rw [hx] at this
      simp only [RV] at this
      exact OpOk.fv _ (RV.v _ _) hd fun t ht => by simp only [YtljgkjkdmoejfaaAv.fv, ht x (by simp [Op.operands]), this]
    · rename_i k b hx
      simp only [Option.some.injEq, Prod.mk.injEq] at hb
      obtain ⟨rfl, rfl, rfl⟩ := hb
      have := hv x (by simp [Op.operands]) hc
      rw [hx] at this
      simp only [RV] at this
      exact OpOk.fv _ (RV.v _ _) hd fun t ht => by simp only [YtljgkjkdmoejfaaAv.fv, ht x (by simp [Op.operands]), this]
    · cases hb
  | extract x i =>
    simp only [xop] at hb
    split at hb
    · rename_i l hx
      split at hb
      · rename_i hlt
        simp only [Option.some.injEq, Prod.mk.injEq] at hb
        obtain ⟨rfl, rfl, rfl⟩ := hb
        have := hv x (by simp [Op.operands]) hc
        rw [hx] at this
        simp only [RV] at this
        obtain ⟨bs, h1, h2⟩ := this
        obtain ⟨b, h3, h4⟩ := h2.getD' i hlt
        exact OpOk.fv b h4 hd fun t ht => by simp only [YtljgkjkdmoejfaaAv.fv, ht x (by simp [Op.operands]), h1]; exact h3
      · cases hb
    · cases hb
  | field T x i =>
    simp only [xop] at hb
    split at hb
    · rename_i u hx
      simp only [Option.some.injEq, Prod.mk.injEq] at hb
      obtain ⟨rfl, rfl, rfl⟩ := hb
      exact xfieldV_ok hX hx (hv x (by simp [Op.operands]) hc) hd
    · cases hb
  | nilCheck x =>
    simp only [xop] at hb
    split at hb
    · rename_i id sz i o hx
      simp only [Option.some.injEq, Prod.mk.injEq] at hb
      obtain ⟨rfl, rfl, rfl⟩ := hb
      have := hv x (by simp [Op.operands]) hc
      rw [hx] at this
      have h0 := this
      simp only [RV] at this
      obtain ⟨g, _, h1⟩ := this
      exact OpOk.fv _ h0 hd fun t ht => by simp only [YtljgkjkdmoejfaaAv.fv, ht x (by simp [Op.operands]), h1]
    · rename_i ds hx
      simp only [Option.some.injEq, Prod.mk.injEq] at hb
      obtain ⟨rfl, rfl, rfl⟩ := hb
      have := hv x (by simp [Op.operands]) hc
      rw [hx] at this
      have h0 := this
      simp only [RV] at this
      obtain ⟨es, h1⟩ := this
      exact OpOk.fv _ h0 hd fun t ht => by simp only [YtljgkjkdmoejfaaAv.fv, ht x (by simp [Op.operands]), h1]
    · cases hb
  | fieldAddr T x i =>
    simp only [xop] at hb
    split at hb
    · rename_i u hx
      simp only [Option.some.injEq, Prod.mk.injEq] at hb
      obtain ⟨rfl, rfl, rfl⟩ := hb
      exact xfield_ok hX hx (hv x (by simp [Op.operands]) hc) hd
    · cases hb
  | indexAddr T x y =>
    simp only [xop] at hb
    split at hb
    · rename_i k j hy
      split at hb
      · rename_i cs' u hx
        simp only [Option.some.injEq, Prod.mk.injEq] at hb
        obtain ⟨rfl, rfl, rfl⟩ := hb
        have h2 := hv y (by simp [Op.operands]) (allL (allR hc))
        rw [hy] at h2
        exact xindex_ok hX hx (allR (allR hc)) (hv x (by simp [Op.operands]) (allL hc)) h2 hd
      · cases hb
    · cases hb
  | index T x y =>
    simp only [xop] at hb
    split at hb
    · rename_i b k j hx hy hs
      simp only [Option.some.injEq, Prod.mk.injEq] at hb
      obtain ⟨rfl, rfl, rfl⟩ := hb
      have h1 := hv x (by simp [Op.operands]) (allL hc)
      have h2 := hv y (by simp [Op.operands]) (allL (allR hc))
      rw [hx] at h1
      rw [hy] at h2
      simp only [RV] at h1 h2
      unfold strB at hs
      split at hs
      · rename_i hu
        exact OpOk.pure _ (RV.v _ _) fun t L ht Q os K => JO.idxStr (okU_fnd hX.U hu) (by rw [ht x (by simp [Op.operands]), h1]) (by rw [ht y (by simp [Op.operands]), h2]) hd (all1 (allR (allR hc))) (all2 (allR (allR hc))) K
      · cases hs
    · rename_i ls k j hx hy hs
      split at hb
      · rename_i n el hu
        split at hb
        · rename_i z bb aa hag hi hsel
          simp only [Option.some.injEq, Prod.mk.injEq] at hb
          obtain ⟨rfl, rfl, rfl⟩ := hb
          have h1 := hv x (by simp [Op.operands]) (allL hc)
          have h2 := hv y (by simp [Op.operands]) (allL (allR hc))
          rw [hx] at h1
          rw [hy] at h2
          simp only [RV] at h1 h2
          obtain ⟨bs, h1, hr⟩ := h1
          obtain ⟨a', hcell, rfl⟩ := xsel_ok hsel (all3 (allR (allR hc)))
          rw [xtake_eq, List.getElem?_take] at hcell
          split at hcell
          · have hlt : j.toNat < ls.length := by
              rcases Nat.lt_or_ge j.toNat ls.length with h | h
              · exact h
              · rw [List.getElem?_eq_none h] at hcell; cases hcell
            obtain ⟨c, hcc, hv2⟩ := hr.get j.toNat hlt
            rw [List.getD_eq_getElem?_getD, hcell] at hv2
            simp only [Option.getD_some, RV] at hv2
            subst hv2
            obtain ⟨u, hu2, hag2⟩ := aggB_ok hX.U hag
            exact OpOk.pure _ (RV.v _ _) fun t L ht Q os K => JO.index1 (okU_fnd hX.U hu) hu2 hag2 (okI_fnd hX.I hi) (by rw [ht x (by simp [Op.operands]), h1]) (by rw [ht y (by simp [Op.operands]), h2]) (all1 (allR (allR hc))) (all2 (allR (allR hc))) hcc hd K
          · cases hcell
        · cases hb
      · cases hb
    · cases hb
  | load T x =>
    simp only [xop] at hb
    split at hb
    · rename_i ag z m b ha hi
      split at hb
      · rename_i cs' u hx
        simp only [Option.some.injEq, Prod.mk.injEq] at hb
        obtain ⟨rfl, rfl, rfl⟩ := hb
        exact xload_ok hX ha hi hx (allR hc) (hv x (by simp [Op.operands]) (allL hc)) (fun id hid r hr g hg => hrow id (by simp only [touchX]; rw [hid]; simp) r hr g hg) hd
      · cases hb
    · cases hb
  | store T x y =>
    simp only [xop] at hb
    split at hb
    · rename_i z m b hi
      split at hb
      · rename_i hm h1
        split at hb
        · rename_i cs' u hx
          simp only [Option.some.injEq, Prod.mk.injEq] at hb
          obtain ⟨rfl, rfl, rfl⟩ := hb
          have := hw _ _ _ rfl
          subst this
          exact xstore_ok hX hi hm h1 hx (allR (allR hc)) (hv x (by simp [Op.operands]) (allL hc)) (hv y (by simp [Op.operands]) (allL (allR hc))) (fun id hid r hr g hg => hrow id (by simp only [touchX]; rw [hid]; simp) r hr g hg)
        · cases hb
      · cases hb
    · cases hb
  | build T parts =>
    simp only [xop] at hb
    split at hb
    · rename_i fs z s b hu hi
      split at hb
      · rename_i pl hp
        split at hb
        · rename_i out ho
          simp only [Option.some.injEq, Prod.mk.injEq] at hb
          obtain ⟨rfl, rfl, rfl⟩ := hb
          exact xbuild_ok hX hu hi hp ho hc (fun q hq => hv q.2 (by simp only [Op.operands]; simpa using ⟨q.1, by simpa using hq⟩)) hd
        · cases hb
      · cases hb
    · rename_i n el z s b hu hi
      split at hb
      · rename_i z2 s2 b2 hi2
        split at hb
        · rename_i out hlt ho
          simp only [Option.some.injEq, Prod.mk.injEq] at hb
          obtain ⟨rfl, rfl, rfl⟩ := hb
          exact xbuildA_ok hX hu hi hi2 hlt ho hc (fun q hq => hv q.2 (by simp only [Op.operands]; simpa using ⟨q.1, by simpa using hq⟩)) hd
        · cases hb
      · cases hb
    · cases hb
  | buildSlice T n parts =>
    simp only [xop] at hb
    split at hb
    · rename_i el hu
      split at hb
      · rename_i z s b hi
        split at hb
        · rename_i h1 h2 h3 h4
          simp only [Option.some.injEq, Prod.mk.injEq] at hb
          obtain ⟨rfl, rfl, rfl⟩ := hb
          exact xlit_ok hX hu hi h1 h2 h3 h4 hc (fun q hq => hv q.2 (by simp only [Op.operands]; simpa using ⟨q.1, by simpa using hq⟩)) hd
        · cases hb
      · cases hb
    · cases hb
  | slice T x lo hi mx =>
    cases mx with
    | some mm =>
      cases lo with
      | some _ => simp [xop] at hb
      | none =>
        cases hi with
        | none => simp [xop] at hb
        | some hh =>
          simp only [xop] at hb
          split at hb
          · rename_i n sz f k1 a k2 b el e1 e2 e3 hu
            split at hb
            · rename_i r hI
              simp only [Option.some.injEq, Prod.mk.injEq] at hb
              obtain ⟨rfl, rfl, rfl⟩ := hb
              obtain ⟨z, m', b'⟩ := r
              obtain ⟨ti, k1', _, _, _⟩ := (okI_fnd hX.I hI).get
              have hx := hv x (by simp [Op.operands]) (allL hc)
              have hh' := hv hh (by simp [Op.operands]) (allL (allR hc))
              have hm' := hv mm (by simp [Op.operands]) (allL (allR (allR hc)))
              have ea : a = n := all1 (allR (allR (allR hc)))
              have eb : b = n := all2 (allR (allR (allR hc)))
              rw [e1] at hx
              rw [e2] at hh'
              rw [e3] at hm'
              simp only [RV, toAV] at hx hh' hm'
              subst ea
              subst eb
              exact OpOk.pure _ (by simp only [RV]; rfl) fun t L ht Q os k => JO.slice3 (okU_fnd hX.U hu) k1' (by rw [ht x (by simp [Op.operands]), hx]) (by rw [ht hh (by simp [Op.operands]), hh']) (by rw [ht mm (by simp [Op.operands]), hm']) hd k
            · cases hb
          · cases hb
    | none =>
      simp only [xop] at hb
      split at hb
      · rename_i cs' u hx
        simp only [Option.some.injEq, Prod.mk.injEq] at hb
        obtain ⟨rfl, rfl, rfl⟩ := hb
        exact xslice_ok hX hx (allR hc) (hv x (by simp [Op.operands]) (allL hc)) (fun y hy => hv y (by simp only [Op.operands]; rcases hy with rfl | rfl <;> simp)) hd
      · split at hb
        · rename_i cs' u hx
          simp only [Option.some.injEq, Prod.mk.injEq] at hb
          obtain ⟨rfl, rfl, rfl⟩ := hb
          exact xsliceA_ok hX hx (allR hc) (hv x (by simp [Op.operands]) (allL hc)) (fun y hy => hv y (by simp only [Op.operands]; rcases hy with rfl | rfl <;> simp)) (fun id hid r hr g hg => hrow id (by simp only [touchX]; rw [hid]; simp) r hr g hg) hd
        · cases hb
  | sliceToArrayPointer T x =>
    simp only [xop] at hb
    split at hb
    · rename_i n el id off m hu hx
      simp only [Option.some.injEq, Prod.mk.injEq] at hb
      obtain ⟨rfl, rfl, rfl⟩ := hb
      have h1 := hv x (by simp [Op.operands]) (allL hc)
      have hnm : n + 1 ≤ m := all1 (allR hc)
      rw [hx] at h1
      simp only [RV] at h1
      rcases h1 with ⟨g, hg, h1⟩ | ⟨_, h0, _⟩
      · refine OpOk.pure _ (by simp only [RV]; exact ⟨g, hg, rfl⟩) fun t L ht Q os K => JO.toArr (okU_fnd hX.U hu) (by rw [ht x (by simp [Op.operands]), h1]) hnm (by omega) hd ?_
        rw [Nat.zero_mul, Nat.zero_add] at K
        rw [Nat.mul_one]
        exact K
      · omega
    · cases hb
  | convert S T x =>
    simp only [xop] at hb
    split at hb
    · rename_i cs' u hx
      simp only [Option.some.injEq, Prod.mk.injEq] at hb
      obtain ⟨rfl, rfl, rfl⟩ := hb
      exact xconv_ok hX hx (allR hc) (hv x (by simp [Op.operands]) (allL hc)) hd
    · split at hb
      · rename_i cs' b hx
        simp only [Option.some.injEq, Prod.mk.injEq] at hb
        obtain ⟨rfl, rfl, rfl⟩ := hb
        exact xconvS_ok hX hx (allR hc) (hv x (by simp [Op.operands]) (allL hc)) (fun id hid r hr g hg => hrow id (by simp only [touchX]; exact hid) r hr g hg) hd
      · cases hb
  | call c =>
    simp only [xop] at hb
    split at hb
    · rename_i hcc
      split at hb
      · rename_i x T hca hct
        split at hb
        · rename_i u hx
          simp only [Option.some.injEq, Prod.mk.injEq] at hb
          obtain ⟨rfl, rfl, rfl⟩ := hb
          refine xlenV_ok hX hcc hca hct hx (hv x ?_ hc) hd
          have : c.args = #[x] := by rw [← Array.toArray_toList (xs := c.args), hca]
          simp [Op.operands, Call.operands, this]
        · cases hb
      · cases hb
    · rename_i hcc
      split at hb
      · rename_i u hx
        simp only [Option.some.injEq, Prod.mk.injEq] at hb
        obtain ⟨rfl, rfl, rfl⟩ := hb
        exact xmin_ok hcc hx hc hv hd
      · cases hb
    · rename_i hcc
      split at hb
      · rename_i u hx
        simp only [Option.some.injEq, Prod.mk.injEq] at hb
        obtain ⟨rfl, rfl, rfl⟩ := hb
        exact xmax_ok hcc hx hc hv hd
      · cases hb
    · rename_i f hcc
      split at hb
      · rename_i C hC
        split at hb
        · rename_i cs' u hx
          simp only [Option.some.injEq, Prod.mk.injEq] at hb
          obtain ⟨rfl, rfl, rfl⟩ := hb
          exact xcall_ok hX hcc hC hx (allL hc) (allR hc) hv hd
        · cases hb
      · split at hb
        · rename_i H id rest hH ha
          split at hb
          · rename_i el ap cells hf
            split at hb
            · rename_i cs' u hx
              simp only [Option.some.injEq, Prod.mk.injEq] at hb
              obtain ⟨rfl, rfl, rfl⟩ := hb
              exact xcallH_ok (o := none) hX hcc hH ha hf hx (allL hc) (allR hc) hv hrow hd
            · rename_i cs' u cells' hx
              simp only [Option.some.injEq, Prod.mk.injEq] at hb
              obtain ⟨rfl, rfl, rfl⟩ := hb
              exact xcallH_ok (o := some cells') hX hcc hH ha hf hx (allL hc) (allR hc) hv hrow hd
            · cases hb
          · cases hb
        · cases hb
    · cases hb
  | _ => simp [xop] at hb
end
end Go.Proofs.YtljgkjkdmoejfaaAv
