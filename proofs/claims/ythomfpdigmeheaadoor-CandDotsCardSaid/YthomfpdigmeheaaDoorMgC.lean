/- Own texts, put together: AvXq; AvXg; AvXh; AvXi; AvXj; AvXk. -/
import Derived.Test.YthomfpdigmeheaaDoorMgB
set_option linter.unusedVariables false
set_option linter.unusedSimpArgs false
namespace Go.Proofs.YthomfpdigmeheaaDoorAv
open Go Go.RowKit
section
variable {P : Program} {N : Nat} {ops : Array Oper} {d : Option Nat} {ty : TypeId} {pos : String} {af : Array Edge} {op : Op} {ρ : Rho} {h : List (Nat × XRow)} {rows : Nat → Row} {val : Operand → AV} {v : XV} {tch : List Nat}
theorem JO.convStr {Q : Exit → TM → GH → Prop} {os : List Oper} {t : TM} {L : GH} {S T : TypeId} {x : Operand} {b : ByteArray} (hS : P.underlying S = some .string) (hT : P.underlying T = some .string) (hx : ev t x = .p (.string b)) (hd : dok N d = true)
    (K : JO P N ops Q os (t.putO d (.p (.string b))) L) : JO P N ops Q (⟨d, .convert S T x, ty, pos, af, none⟩ :: os) t L :=
  JO.still hd (fun a w s => by
    have e1 := s.ev x
    rw [hx] at e1
    simp only [VS] at e1
    refine ⟨.string b, ?_, by simp [VS]⟩
    simp [execOp, e1, convert, run_underlying hS, run_underlying hT]) K
theorem xconv_ok {X : Cx} (hX : X.ok P) {S T : TypeId} {x : Operand} {a : XV} {cs : List Prop} (hb : xconv X S T a = some (cs, v)) (hc : ∀ p ∈ cs, p) (hx : RV ρ a (val x)) (hd : dok N d = true) :
    OpOk P N ops d ty pos af (.convert S T x) ρ h rows val tch v none := by
  unfold xconv at hb
  split at hb
  · rename_i k0 k k' i hs ht
    simp only [RV] at hx
    split at hb
    · simp only [Option.some.injEq, Prod.mk.injEq] at hb
      obtain ⟨rfl, rfl⟩ := hb
      have := all1 hc
      refine OpOk.pure _ (RV.v _ _) fun t L he Q os K => JO.convInt (okU_fnd hX.U hs) (okU_fnd hX.U ht) (by rw [he x (by simp [Op.operands]), hx]) hd ?_
      rw [wrap64_in this.1 this.2]
      exact K
    · simp only [Option.some.injEq, Prod.mk.injEq] at hb
      obtain ⟨-, rfl⟩ := hb
      exact OpOk.pure _ (RV.v _ _) fun t L he Q os K => JO.convInt (okU_fnd hX.U hs) (okU_fnd hX.U ht) (by rw [he x (by simp [Op.operands]), hx]) hd K
  · rename_i b hs ht
    simp only [RV] at hx
    simp only [Option.some.injEq, Prod.mk.injEq] at hb
    obtain ⟨-, rfl⟩ := hb
    exact OpOk.pure _ (RV.v _ _) fun t L he Q os K => JO.convStr (okU_fnd hX.U hs) (okU_fnd hX.U ht) (by rw [he x (by simp [Op.operands]), hx]) hd K
  · rename_i k0 k i hs ht
    simp only [RV] at hx
    simp only [Option.some.injEq, Prod.mk.injEq] at hb
    obtain ⟨-, rfl⟩ := hb
    exact OpOk.pure _ (RV.v _ _) fun t L he Q os K => JO.runeStr (okU_fnd hX.U hs) (okU_fnd hX.U ht) (by rw [he x (by simp [Op.operands]), hx]) hd K
  · cases hb
theorem xlenV_ok {X : Cx} (hX : X.ok P) {T : TypeId} {x : Operand} {a : XV} {c : Call} (hcc : c.callee = .builtin .len) (hca : c.args.toList = [x]) (hct : c.argTypes.toList = [T]) (hb : xlenV X T a = some v) (hx : RV ρ a (val x)) (hd : dok N d = true) :
    OpOk P N ops d ty pos af (.call c) ρ h rows val tch v none := by
  obtain ⟨ce, ar, at'⟩ := c
  simp only at hcc hca hct
  subst hcc
  have h1 : ar = #[x] := by rw [← Array.toArray_toList (xs := ar), hca]
  have h2 : at' = #[T] := by rw [← Array.toArray_toList (xs := at'), hct]
  subst h1 h2
  have hop : ∀ t : TM, (∀ y ∈ (Op.call { callee := .builtin .len, args := #[x], argTypes := #[T] }).operands.toList, ev t y = val y) → ev t x = val x := fun t ht => ht x (by simp [Op.operands, Call.operands])
  unfold xlenV at hb
  split at hb
  · split at hb
    · rename_i hs
      simp only [Option.some.injEq] at hb
      subst hb
      simp only [RV] at hx
      unfold strB at hs
      split at hs
      · rename_i hu
        exact OpOk.pure _ (RV.v _ _) fun t L ht Q os K => JO.lenStr (okU_fnd hX.U hu) (by rw [hop t ht, hx]) hd K
      · cases hs
    · cases hb
  · split at hb
    · rename_i hu
      simp only [Option.some.injEq] at hb
      subst hb
      simp only [RV] at hx
      exact OpOk.pure _ (RV.v _ _) fun t L ht Q os K => JO.lenSl (okU_fnd hX.U hu) (by rw [hop t ht, hx]; rfl) hd K
    · cases hb
  · split at hb
    · rename_i hu
      simp only [Option.some.injEq] at hb
      subst hb
      simp only [RV, toAV] at hx
      exact OpOk.pure _ (RV.v _ _) fun t L ht Q os K => JO.lenSl (okU_fnd hX.U hu) (by rw [hop t ht, hx]; rfl) hd K
    · cases hb
  · split at hb
    · rename_i hu
      simp only [Option.some.injEq] at hb
      subst hb
      simp only [RV] at hx
      rcases hx with ⟨g, _, hx⟩ | ⟨_, rfl, _, hx⟩
      · exact OpOk.pure _ (RV.v _ _) fun t L ht Q os K => JO.lenSl (okU_fnd hX.U hu) (by rw [hop t ht, hx]; rfl) hd K
      · exact OpOk.pure _ (RV.v _ _) fun t L ht Q os K => JO.lenSl (okU_fnd hX.U hu) (by rw [hop t ht, hx]; rfl) hd K
    · cases hb
  · cases hb
theorem seqB_eq : ∀ (l : List (Nat × Operand)) (k : Nat), seqB l k = true → l = ((l.map (·.2)).zipIdx k).map fun p => (p.2, p.1)
  | [], k, _ => rfl
  | (i, x) :: l, k, hs => by
    simp only [seqB, Bool.and_eq_true, beqN, decide_eq_true_eq] at hs
    obtain ⟨rfl, hs⟩ := hs
    simp only [List.map_cons, List.zipIdx_cons]
    rw [← seqB_eq l (i + 1) hs]
theorem vecOf_one {sz : Nat} {g : Nat → List AV} (hl : (g 0).length = sz) : vecOf 1 sz g = g 0 := by
  apply List.ext_getElem?
  intro c
  rcases Nat.lt_or_ge c sz with hc | hc
  · have := vecOf_get (n := 1) (sz := sz) (g := g) (i := 0) (o := c) (by omega) hc
    rw [Nat.zero_mul, Nat.zero_add] at this
    rw [this, List.getD_eq_getElem?_getD, List.getElem?_eq_getElem (by omega)]
    rfl
  · rw [List.getElem?_eq_none (by rw [vecOf_length]; omega), List.getElem?_eq_none (by omega)]
theorem flat_vec {sz : Nat} : ∀ (l : List (Nat × List XV)), eachLen sz l = true → (l.flatMap fun q => toAVL q.2) = vecOf l.length sz fun j => toAVL (nthCells l j)
  | [], _ => by simp [vecOf]
  | (i, cs) :: l, hl => by
    simp only [eachLen, Bool.and_eq_true, beqN, decide_eq_true_eq, xlen_eq] at hl
    have h1 : vecOf 1 sz (fun _ => toAVL cs) = toAVL cs := vecOf_one (g := fun _ => toAVL cs) (by rw [toAVL_length]; exact hl.1)
    rw [List.flatMap_cons, flat_vec l hl.2.2.2, List.length_cons, Nat.add_comm]
    show toAVL cs ++ _ = _
    conv => lhs; rw [← h1]
    rw [vecOf_app]
    apply vecOf_congr
    intro j hj
    rw [bltN]
    cases j with
    | zero => rfl
    | succ j => simp [nthCells]
theorem texts_sel {cs : List XV} : ∀ {l : List ByteArray}, textsX cs = some l → ∀ j, j < cs.length → (cs[j]?) = some (.v (.p (.string (l.getD j ⟨#[]⟩)))) := by
  induction cs with
  | nil => intro l h j hj; cases hj
  | cons x cs ih =>
    intro l h j hj
    unfold textsX at h
    split at h
    · rename_i h0; cases h0
    · rename_i b t heq
      obtain ⟨rfl, rfl⟩ := List.cons.inj heq
      split at h
      · rename_i r hr
        obtain rfl := Option.some.inj h
        cases j with
        | zero => rfl
        | succ j =>
          have := ih hr j (by simpa using hj)
          simpa using this
      · cases h
    · cases h
theorem nils_sel {cs : List XV} (h : nilsX cs = true) : ∀ j, j < cs.length → (cs[j]?) = some (.v (.p (.slice none 0 0))) := by
  induction cs with
  | nil => intro j hj; cases hj
  | cons x cs ih =>
    intro j hj
    unfold nilsX at h
    split at h
    · rename_i h0; cases h0
    · rename_i t heq
      obtain ⟨rfl, rfl⟩ := List.cons.inj heq
      cases j with
      | zero => rfl
      | succ j =>
        have := ih h j (by simpa using hj)
        simpa using this
    · cases h
theorem col_sel {cs : List XV} {g : Nat → XV} (h : colX cs = some g) : ∀ j, j < cs.length → (cs[j]?) = some (g j) := by
  intro j hj
  unfold colX at h
  split at h
  · rename_i l hl
    obtain rfl := Option.some.inj h
    exact bools_sel hl j hj
  · split at h
    · split at h
      · rename_i l hl
        obtain rfl := Option.some.inj h
        exact ints_sel hl j hj
      · cases h
    · split at h
      · rename_i l hl
        obtain rfl := Option.some.inj h
        exact texts_sel hl j hj
      · cases h
    · split at h
      · rename_i hl
        obtain rfl := Option.some.inj h
        exact nils_sel hl j hj
      · cases h
theorem colAt_get (o : Nat) : ∀ (l : List (Nat × List XV)) (j : Nat), j < l.length → (colAt o l)[j]? = some (xget (nthCells l j) o)
  | [], j, h => by cases h
  | (_, cs) :: l, 0, h => rfl
  | (_, cs) :: l, j + 1, h => by
    simp only [colAt, nthCells]
    have := colAt_get o l j (by simpa using h)
    simpa using this
theorem colAt_len (o : Nat) : ∀ (l : List (Nat × List XV)), (colAt o l).length = l.length
  | [] => rfl
  | (_, cs) :: l => by simp [colAt, colAt_len o l]
theorem cols_sel {l : List (Nat × List XV)} {j : Nat} (hj : j < l.length) : ∀ (n o : Nat) (gs : List (Nat → XV)), colsX l n o = some gs → apX j gs = xel (nthCells l j) n o
  | 0, o, gs, h => by
    simp only [colsX, Option.some.injEq] at h
    subst h
    rfl
  | n + 1, o, gs, h => by
    simp only [colsX] at h
    split at h
    · rename_i g gs' h1 h2
      obtain rfl := Option.some.inj h
      have e1 := col_sel h1 j (by rw [colAt_len]; exact hj)
      rw [colAt_get o l j hj] at e1
      simp only [apX, xel]
      rw [cols_sel hj n (o + 1) gs' h2, Option.some.inj e1]
    · cases h
theorem nthCells_mem : ∀ {l : List (Nat × List XV)} {j : Nat}, j < l.length → ∃ i, (i, nthCells l j) ∈ l
  | [], j, h => by cases h
  | (i, cs) :: l, 0, h => ⟨i, by simp [nthCells]⟩
  | (i, cs) :: l, j + 1, h => by
    obtain ⟨i', hi⟩ := nthCells_mem (l := l) (j := j) (by simpa using h)
    exact ⟨i', by simp [nthCells, hi]⟩
theorem eachLen_all {sz : Nat} : ∀ {l : List (Nat × List XV)}, eachLen sz l = true → ∀ q ∈ l, q.2.length = sz ∧ xones q.2 = true ∧ xpure q.2 = true
  | [], _, q, hq => by cases hq
  | (i, cs) :: l, hl, q, hq => by
    simp only [eachLen, Bool.and_eq_true, beqN, decide_eq_true_eq, xlen_eq] at hl
    rcases List.mem_cons.1 hq with rfl | hq
    · exact ⟨hl.1, hl.2.1, hl.2.2.1⟩
    · exact eachLen_all hl.2.2.2 q hq
theorem bsF_eq {sz : Nat} {l : List (Nat × List XV)} (h : eachLen sz l = true) {j : Nat} (hj : j < l.length) : bsF sz l j = nthCells l j := by
  unfold bsF
  split
  · have : j = 0 := by simp at hj; exact hj
    subst this
    rfl
  · cases hg : colsX l sz 0 with
    | some gs =>
      simp only
      rw [cols_sel hj sz 0 gs hg, xel_eq]
      obtain ⟨i, hi⟩ := nthCells_mem hj
      have hlen := (eachLen_all h _ hi).1
      simp only at hlen
      apply List.ext_getElem?
      intro c
      rw [List.getElem?_map]
      rcases Nat.lt_or_ge c sz with hc | hc
      · rw [List.getElem?_range hc, Option.map_some, Nat.zero_add, List.getD_eq_getElem?_getD, List.getElem?_eq_getElem (by omega)]
        rfl
      · rw [List.getElem?_eq_none (by simpa using hc), List.getElem?_eq_none (by omega)]
        rfl
    | none => rfl
theorem flat_bs {sz : Nat} (l : List (Nat × List XV)) (h : eachLen sz l = true) : (l.flatMap fun q => toAVL q.2) = vecOf l.length sz fun j => toAVL (bsF sz l j) := by
  rw [flat_vec l h]
  exact vecOf_congr fun j hj => by rw [bsF_eq h hj]
theorem xlit_ok {X : Cx} (hX : X.ok P) {T el : TypeId} {n sz b : Nat} {z : Value} {parts : Array (Nat × Operand)} {e : Operand → List Prop × XV} (hu : fnd X.U T = some (.slice el)) (hi : fnd X.I el = some (z, sz, b)) (hs : seqB parts.toList 0 = true) (hn : Nat.beq n parts.toList.length = true)
    (hl : eachLen sz (xpartsV e parts.toList).2 = true) (hb : Nat.ble (n * sz) 16777216 = true) (hc : ∀ p ∈ (xpartsV e parts.toList).1, p) (hv : ∀ q ∈ parts.toList, (∀ p ∈ (e q.2).1, p) → RV ρ (e q.2).2 (val q.2)) (hd : dok N d = true) :
    OpOk P N ops d ty pos af (.buildSlice T n parts) ρ h rows val tch (.fz n sz (bsF sz (xpartsV e parts.toList).2)) none ∧
    OpOk P N ops d ty pos af (.buildSlice T n parts) ρ h rows val tch (.fzc n sz (bsF sz (xpartsV e parts.toList).2)) none := by
  obtain ⟨e1, e2⟩ := xpartsV_ok ρ val parts.toList hv hc
  rw [beqN, decide_eq_true_eq] at hn
  rw [bleN, decide_eq_true_eq] at hb
  have hall := eachLen_all hl
  have hfv := flat_bs _ hl
  rw [e1] at hall hfv
  have hparts : parts = (partsOf (parts.toList.map (·.2))).toArray := by
    have := seqB_eq _ _ hs
    apply Array.ext'
    simpa [partsOf] using this
  have hcell : ∀ q ∈ parts.toList, (val q.2).cells = toAVL (e q.2).2.cells ∧ YthomfpdigmeheaaDoorAv.ones (val q.2).cells = true ∧ (val q.2).cells.length = sz := fun q hq => by
    obtain ⟨a1, a2, a3⟩ := hall _ (List.mem_map_of_mem hq)
    obtain ⟨c1, c2⟩ := RV.cells a2 (e2 q hq)
    exact ⟨c1.pure a3, c2, by rw [← c1.length]; exact a1⟩
  have hflat : (parts.toList.map fun q => val q.2).flatMap AV.cells = vecOf n sz fun j => toAVL (bsF sz (xpartsV e parts.toList).2 j) := by
    rw [e1, hn]
    have : (parts.toList.map fun q : Nat × Operand => (q.1, (e q.2).2.cells)).length = parts.toList.length := by simp
    rw [← this, ← hfv, List.flatMap_map, List.flatMap_map]
    have : ∀ l : List (Nat × Operand), (∀ q ∈ l, (val q.2).cells = toAVL (e q.2).2.cells) → l.flatMap (fun q => (val q.2).cells) = l.flatMap fun q => toAVL (e q.2).2.cells := by
      intro l hl
      induction l with
      | nil => rfl
      | cons q l ih => rw [List.flatMap_cons, List.flatMap_cons, hl q (by simp), ih fun q hq => hl q (by simp [hq])]
    exact this _ fun q hq => (hcell q hq).1
  have hop : ∀ t : TM, (∀ x ∈ (Op.buildSlice T n parts).operands.toList, ev t x = val x) → (parts.toList.map (·.2)).map (ev t) = parts.toList.map fun q => val q.2 := fun t ht => by
    rw [List.map_map]
    exact List.map_congr_left fun q hq => ht q.2 (by
      simp only [Op.operands]
      simpa using ⟨q.1, by simpa using hq⟩)
  have a1 : ∀ v ∈ parts.toList.map (fun q => val q.2), YthomfpdigmeheaaDoorAv.ones v.cells = true := by
    intro a ha
    obtain ⟨q, hq, rfl⟩ := List.mem_map.1 ha
    exact (hcell q hq).2.1
  have a2 : ∀ v ∈ parts.toList.map (fun q => val q.2), v.cells.length = sz := by
    intro a ha
    obtain ⟨q, hq, rfl⟩ := List.mem_map.1 ha
    exact (hcell q hq).2.2
  obtain ⟨ti, t1, t2, t3, t4⟩ := (okI_fnd hX.I hi).get
  constructor
  · refine OpOk.pure (.fz n (vecOf n sz fun j => toAVL (bsF sz (xpartsV e parts.toList).2 j))) (by simp only [RV, toAV]) fun t L ht Q os K => ?_
    have hmap := hop t ht
    rw [hparts]
    exact R.litFz (okU_fnd hX.U hu) (okI_fnd hX.I hi) (by rw [hn]; simp) hmap a1 a2 hb hflat hd K
  · refine OpOk.pure (.fzc n (vecOf n sz fun j => toAVL (bsF sz (xpartsV e parts.toList).2 j))) (by simp only [RV]) fun t L ht Q os K => ?_
    have hmap := hop t ht
    rw [hparts]
    exact JO.litFzc (okU_fnd hX.U hu) t1 t2 t3 (by rw [hn]; simp) hmap a1 a2 hb hflat hd K
theorem vecOf_cut {n sz l m : Nat} {g : Nat → List AV} (hl : l + m ≤ n) : ((vecOf n sz g).drop (l * sz)).take (m * sz) = vecOf m sz fun j => g (l + j) := by
  apply List.ext_getElem?
  intro c
  rw [List.getElem?_take]
  split
  · rename_i hc
    have hs : 0 < sz := by rcases Nat.eq_zero_or_pos sz with h0 | h0; (rw [h0] at hc; simp at hc); exact h0
    have h1 : (l + m) * sz ≤ n * sz := Nat.mul_le_mul_right _ hl
    rw [Nat.add_mul] at h1
    rw [List.getElem?_drop, vecOf_get' (by omega), vecOf_get' hc]
    rw [Nat.add_comm (l * sz) c, Nat.add_mul_div_right _ _ hs, Nat.add_mul_mod_self_right, Nat.add_comm l]
  · rename_i hc
    rw [List.getElem?_eq_none (by rw [vecOf_length]; omega)]
def IsI (val : Operand → AV) (l dflt : Int) : Option Operand → Prop
  | some x => ∃ k, val x = .p (.int k l)
  | none => l = dflt
theorem optI_ok {e : Operand → List Prop × XV} {dflt : Int} {o : Option Operand} {p : List Prop} {l : Int} (ho : optI e dflt o = some (p, l)) (hc : ∀ q ∈ p, q) (hv : ∀ x, o = some x → (∀ p ∈ (e x).1, p) → RV ρ (e x).2 (val x)) :
    IsI val l dflt o := by
  unfold optI at ho
  cases o with
  | none =>
    simp only [Option.some.injEq, Prod.mk.injEq] at ho
    exact ho.2.symm
  | some x =>
    simp only at ho
    split at ho
    · rename_i q k i heq
      simp only [Option.some.injEq, Prod.mk.injEq] at ho
      obtain ⟨rfl, rfl⟩ := ho
      have := hv x rfl (by rw [heq]; exact hc)
      rw [heq] at this
      simp only [RV] at this
      exact ⟨k, this⟩
    · cases ho
theorem xslice_ok {X : Cx} (hX : X.ok P) {T : TypeId} {x : Operand} {lo hi : Option Operand} {a : XV} {cs : List Prop} {e : Operand → List Prop × XV} (hb : xslice X T e lo hi a = some (cs, v)) (hc : ∀ p ∈ cs, p) (hx : RV ρ a (val x))
    (hv : ∀ y, lo = some y ∨ hi = some y → (∀ p ∈ (e y).1, p) → RV ρ (e y).2 (val y)) (hd : dok N d = true) : OpOk P N ops d ty pos af (.slice T x lo hi none) ρ h rows val tch v none := by
  have hop : ∀ (t : TM) (y : Operand), (∀ y ∈ (Op.slice T x lo hi none).operands.toList, ev t y = val y) → (y = x ∨ lo = some y ∨ hi = some y) → ev t y = val y := by
    intro t y ht hy
    refine ht y ?_
    simp only [Op.operands]
    rcases hy with rfl | rfl | rfl <;> simp
  have conv : ∀ (t : TM) (o : Option Operand) (l dflt : Int), (∀ y ∈ (Op.slice T x lo hi none).operands.toList, ev t y = val y) → (∀ y, o = some y → lo = some y ∨ hi = some y) → IsI val l dflt o →
      IsI (ev t) l dflt o := by
    intro t o l dflt ht ho hm
    cases o with
    | none => exact hm
    | some y =>
      obtain ⟨k, hk⟩ := hm
      exact ⟨k, by rw [hop t y ht (.inr (ho y rfl)), hk]⟩
  unfold xslice at hb
  split at hb
  · rename_i b
    simp only [RV] at hx
    split at hb
    · rename_i p l q hh hs h1 h2
      simp only [Option.some.injEq, Prod.mk.injEq] at hb
      obtain ⟨rfl, rfl⟩ := hb
      have m1 := optI_ok (ρ := ρ) (val := val) h1 (allL hc) fun y hy => hv y (.inl hy)
      have m2 := optI_ok (ρ := ρ) (val := val) h2 (allL (allR hc)) fun y hy => hv y (.inr hy)
      have hc3 := allR (allR hc)
      unfold strB at hs
      split at hs
      · rename_i hu
        exact OpOk.pure _ (RV.v _ _) fun t L ht Q os K => JO.cutStr (okU_fnd hX.U hu) (by rw [hop t x ht (.inl rfl), hx]) (by have := conv t lo l 0 ht (fun y hy => .inl hy) m1; cases lo <;> exact this) (by have := conv t hi hh _ ht (fun y hy => .inr hy) m2; cases hi <;> exact this) hd (all1 hc3) (all2 hc3) (all3 hc3) K
      · cases hs
    · cases hb
  · rename_i n sz f
    simp only [RV, toAV] at hx
    split at hb
    · rename_i el p l q hh hu h1 h2
      split at hb
      · rename_i z s b hi'
        split at hb
        · rename_i hs
          simp only [Option.some.injEq, Prod.mk.injEq] at hb
          obtain ⟨rfl, rfl⟩ := hb
          rw [beqN, decide_eq_true_eq] at hs
          subst hs
          have m1 := optI_ok (ρ := ρ) (val := val) h1 (allL hc) fun y hy => hv y (.inl hy)
          have m2 := optI_ok (ρ := ρ) (val := val) h2 (allL (allR hc)) fun y hy => hv y (.inr hy)
          have hc3 := allR (allR hc)
          have g1 : 0 ≤ l := all1 hc3
          have g2 : l ≤ hh := all2 hc3
          have g3 : hh ≤ n := all3 hc3
          obtain ⟨ti, k1, -, k3, -⟩ := (okI_fnd hX.I hi').get
          subst k3
          refine OpOk.pure (.fz (hh - l).toNat (vecOf (hh - l).toNat ti.size fun j => toAVL (f (l.toNat + j)))) (by simp only [RV, toAV]) fun t L ht Q os K => JO.cutFz (okU_fnd hX.U hu) k1 (by rw [hop t x ht (.inl rfl), hx]) (by have := conv t lo l 0 ht (fun y hy => .inl hy) m1; cases lo <;> exact this) (by have := conv t hi hh _ ht (fun y hy => .inr hy) m2; cases hi <;> exact this) hd g1 g2 g3 (vecOf_length _ _ _) ?_
          rw [vecOf_cut (by omega)]
          exact K
        · cases hb
      · cases hb
    · cases hb
  · rename_i id sz off n
    simp only [RV] at hx
    split at hb
    · rename_i el p l q hh hu h1 h2
      split at hb
      · rename_i z s b hi'
        split at hb
        · rename_i hs
          simp only [Option.some.injEq, Prod.mk.injEq] at hb
          obtain ⟨rfl, rfl⟩ := hb
          rw [beqN, decide_eq_true_eq] at hs
          subst hs
          have m1 := optI_ok (ρ := ρ) (val := val) h1 (allL hc) fun y hy => hv y (.inl hy)
          have m2 := optI_ok (ρ := ρ) (val := val) h2 (allL (allR hc)) fun y hy => hv y (.inr hy)
          have hc3 := allR (allR hc)
          have g1 : 0 ≤ l := all1 hc3
          have g2 : l ≤ hh := all2 hc3
          have g3 : hh ≤ n := all3 hc3
          obtain ⟨ti, k1, -, k3, -⟩ := (okI_fnd hX.I hi').get
          rcases hx with ⟨g, hg, hx⟩ | ⟨hg, rfl, rfl, hx⟩
          · refine OpOk.pure (.sl g s ((off + l.toNat) * s) (hh - l).toNat) (by simp only [RV]; exact .inl ⟨g, hg, rfl⟩) fun t L ht Q os K => JO.cutSl (okU_fnd hX.U hu) k1 k3 (by rw [hop t x ht (.inl rfl), hx]) (by have := conv t lo l 0 ht (fun y hy => .inl hy) m1; cases lo <;> exact this) (by have := conv t hi hh _ ht (fun y hy => .inr hy) m2; cases hi <;> exact this) hd g1 g2 g3 ?_
            rw [← Nat.add_mul]
            exact K
          · refine OpOk.pure (.p (.slice none 0 0)) (by simp only [RV]; exact .inr ⟨hg, by omega, by omega, trivial⟩) fun t L ht Q os K => JO.cutNil (okU_fnd hX.U hu) k1 (by rw [hop t x ht (.inl rfl), hx]) (by have := conv t lo l 0 ht (fun y hy => .inl hy) m1; cases lo <;> exact this) (by have := conv t hi hh _ ht (fun y hy => .inr hy) m2; cases hi <;> exact this) hd g1 g2 g3 K
        · cases hb
      · cases hb
    · cases hb
  · cases hb
theorem xargs_ok {e : Operand → List Prop × XV} (ρ : Rho) (val : Operand → AV) : ∀ (l : List Operand), (∀ x ∈ l, (∀ p ∈ (e x).1, p) → RV ρ (e x).2 (val x)) → (∀ p ∈ (xargs e l).1, p) → RVL ρ (xargs e l).2 (l.map val)
  | [], _, _ => by simp [xargs, RVL]
  | x :: l, hv, hc => by
    simp only [xargs] at hc
    simp only [xargs, List.map_cons, RVL]
    exact ⟨hv x (by simp) (allL hc), xargs_ok ρ val l (fun y hy => hv y (by simp [hy])) (allR hc)⟩
theorem xcall_ok {X : Cx} (hX : X.ok P) {c : Call} {f : FuncId} {C : CT} {e : Operand → List Prop × XV} {cs : List Prop} (hcc : c.callee = .value (.func f)) (hC : fnd X.C f = some C) (hb : C (xargs e c.args.toList).2 = some (cs, v)) (hc1 : ∀ p ∈ (xargs e c.args.toList).1, p) (hc2 : ∀ p ∈ cs, p)
    (hv : ∀ x ∈ (Op.call c).operands.toList, (∀ p ∈ (e x).1, p) → RV ρ (e x).2 (val x)) (hd : dok N d = true) : OpOk P N ops d ty pos af (.call c) ρ h rows val tch v none := by
  obtain ⟨ce, ar, at'⟩ := c
  simp only at hcc hb hc1
  subst hcc
  obtain ⟨⟨fn, co, h1, h2, h3⟩, h4⟩ := hX.C f C hC
  have hmem : ∀ x ∈ ar.toList, x ∈ (Op.call { callee := .value (.func f), args := ar, argTypes := at' }).operands.toList := by
    intro x hx
    simp only [Op.operands, Call.operands]
    simp [Array.mem_toList_iff] at hx ⊢
    exact .inr hx
  have hargs := xargs_ok ρ val ar.toList (fun x hx => hv x (hmem x hx)) hc1
  obtain ⟨v', hv', hj⟩ := h4 _ _ _ hb hc2 ρ _ hargs
  refine OpOk.pure v' hv' fun t L ht Q os K => ?_
  have hm : ar.toList.map (ev t) = ar.toList.map val := List.map_congr_left fun x hx => ht x (hmem x hx)
  have := JO.callV (P := P) (N := N) (ops := ops) (Q := Q) (ty := ty) (pos := pos) (af := af) (os := os) (t := t) (L := L) (v := v') (xs := ar.toList) (tys := at') h1 h2 h3 hd (by rw [hm]; exact hj L) K
  simpa using this
theorem xmin_ok {c : Call} {e : Operand → List Prop × XV} (hcc : c.callee = .builtin .min) (hb : xmin (xargs e c.args.toList).2 = some v) (hc1 : ∀ p ∈ (xargs e c.args.toList).1, p)
    (hv : ∀ x ∈ (Op.call c).operands.toList, (∀ p ∈ (e x).1, p) → RV ρ (e x).2 (val x)) (hd : dok N d = true) : OpOk P N ops d ty pos af (.call c) ρ h rows val tch v none := by
  obtain ⟨ce, ar, at'⟩ := c
  simp only at hcc hb hc1
  subst hcc
  have hmem : ∀ x ∈ ar.toList, x ∈ (Op.call { callee := .builtin .min, args := ar, argTypes := at' }).operands.toList := by
    intro x hx
    simp only [Op.operands, Call.operands]
    simp [Array.mem_toList_iff] at hx ⊢
    exact hx
  have hargs := xargs_ok ρ val ar.toList (fun x hx => hv x (hmem x hx)) hc1
  unfold xmin at hb
  split at hb
  · rename_i k a k' b heq
    obtain rfl := Option.some.inj hb
    rw [heq] at hargs
    match hl : ar.toList with
    | [x, y] =>
      rw [hl] at hargs
      simp only [List.map_cons, List.map_nil, RVL, RV, and_true] at hargs
      have hx := hmem x (by rw [hl]; simp)
      have hy := hmem y (by rw [hl]; simp)
      have h1 : ar = #[x, y] := by rw [← Array.toArray_toList (xs := ar), hl]
      subst h1
      exact OpOk.pure _ (RV.v _ _) fun t L ht Q os K => JO.min2 (by rw [ht x hx]; exact hargs.1) (by rw [ht y hy]; exact hargs.2) hd K
    | [] => rw [hl] at hargs; simp [RVL] at hargs
    | [x] => rw [hl] at hargs; simp [RVL] at hargs
    | _ :: _ :: _ :: _ => rw [hl] at hargs; simp [RVL] at hargs
  · rename_i k a k' b k'' c heq
    obtain rfl := Option.some.inj hb
    rw [heq] at hargs
    match hl : ar.toList with
    | [x, y, z] =>
      rw [hl] at hargs
      simp only [List.map_cons, List.map_nil, RVL, RV, and_true] at hargs
      have hx := hmem x (by rw [hl]; simp)
      have hy := hmem y (by rw [hl]; simp)
      have hz := hmem z (by rw [hl]; simp)
      have h1 : ar = #[x, y, z] := by rw [← Array.toArray_toList (xs := ar), hl]
      subst h1
      exact OpOk.pure _ (RV.v _ _) fun t L ht Q os K => JO.min3 (by rw [ht x hx]; exact hargs.1) (by rw [ht y hy]; exact hargs.2.1) (by rw [ht z hz]; exact hargs.2.2) hd K
    | [] => rw [hl] at hargs; simp [RVL] at hargs
    | [x] => rw [hl] at hargs; simp [RVL] at hargs
    | [x, y] => rw [hl] at hargs; simp [RVL] at hargs
    | _ :: _ :: _ :: _ :: _ => rw [hl] at hargs; simp [RVL] at hargs
  · cases hb
theorem xmax_ok {c : Call} {e : Operand → List Prop × XV} (hcc : c.callee = .builtin .max) (hb : xmax (xargs e c.args.toList).2 = some v) (hc1 : ∀ p ∈ (xargs e c.args.toList).1, p)
    (hv : ∀ x ∈ (Op.call c).operands.toList, (∀ p ∈ (e x).1, p) → RV ρ (e x).2 (val x)) (hd : dok N d = true) : OpOk P N ops d ty pos af (.call c) ρ h rows val tch v none := by
  obtain ⟨ce, ar, at'⟩ := c
  simp only at hcc hb hc1
  subst hcc
  have hmem : ∀ x ∈ ar.toList, x ∈ (Op.call { callee := .builtin .max, args := ar, argTypes := at' }).operands.toList := by
    intro x hx
    simp only [Op.operands, Call.operands]
    simp [Array.mem_toList_iff] at hx ⊢
    exact hx
  have hargs := xargs_ok ρ val ar.toList (fun x hx => hv x (hmem x hx)) hc1
  unfold xmax at hb
  split at hb
  · rename_i k a k' b heq
    obtain rfl := Option.some.inj hb
    rw [heq] at hargs
    match hl : ar.toList with
    | [x, y] =>
      rw [hl] at hargs
      simp only [List.map_cons, List.map_nil, RVL, RV, and_true] at hargs
      have hx := hmem x (by rw [hl]; simp)
      have hy := hmem y (by rw [hl]; simp)
      have h1 : ar = #[x, y] := by rw [← Array.toArray_toList (xs := ar), hl]
      subst h1
      exact OpOk.pure _ (RV.v _ _) fun t L ht Q os K => JO.max2 (by rw [ht x hx]; exact hargs.1) (by rw [ht y hy]; exact hargs.2) hd K
    | [] => rw [hl] at hargs; simp [RVL] at hargs
    | [x] => rw [hl] at hargs; simp [RVL] at hargs
    | _ :: _ :: _ :: _ => rw [hl] at hargs; simp [RVL] at hargs
  · cases hb
theorem upd_self {L : GH} {g : Nat} {r : Row} (h : L g = some r) : upd L g r = L := by
  funext b
  simp only [upd]
  split
  · rename_i hb; rw [hb, h]
  · rfl
theorem xcallH_ok {X : Cx} (hX : X.ok P) {c : Call} {f : FuncId} {H : HT} {e : Operand → List Prop × XV} {cs : List Prop} {id : Nat} {rest cells : List XV} {el : TypeId} {ap : Bool} {o : Option (List XV)} (hcc : c.callee = .value (.func f)) (hH : fnd X.H f = some H)
    (ha : (xargs e c.args.toList).2 = .ptr id 0 0 0 :: rest) (hf : findR h id = some (.one el ap cells)) (hb : H cells rest = some (cs, v, o)) (hc1 : ∀ p ∈ (xargs e c.args.toList).1, p) (hc2 : ∀ p ∈ cs, p)
    (hv : ∀ x ∈ (Op.call c).operands.toList, (∀ p ∈ (e x).1, p) → RV ρ (e x).2 (val x)) (hrow : ∀ id ∈ touchX e (.call c), ∀ r, findR h id = some r → ∀ g, ρ id = some (some g) → RRow ρ r (rows id)) (hd : dok N d = true) :
    OpOk P N ops d ty pos af (.call c) ρ h rows val (touchX e (.call c)) v (o.map fun cells' => (id, .one el ap cells')) := by
  obtain ⟨ce, ar, at'⟩ := c
  simp only at hcc ha hc1
  subst hcc
  obtain ⟨⟨fn, co, h1, h2, h3⟩, h4⟩ := hX.H f H hH
  have hmem : ∀ x ∈ ar.toList, x ∈ (Op.call { callee := .value (.func f), args := ar, argTypes := at' }).operands.toList := by
    intro x hx
    simp only [Op.operands, Call.operands]
    simp [Array.mem_toList_iff] at hx ⊢
    exact .inr hx
  have hargs := xargs_ok ρ val ar.toList (fun x hx => hv x (hmem x hx)) hc1
  -- the first argument
  cases hl : ar.toList with
  | nil => rw [hl] at ha; cases ha
  | cons x0 xs =>
    rw [hl] at ha hargs
    simp only [xargs, List.cons.injEq] at ha
    obtain ⟨hx0, hrest⟩ := ha
    simp only [xargs, List.map_cons, RVL, hx0, hrest] at hargs
    obtain ⟨hp, hargs⟩ := hargs
    simp only [RV] at hp
    obtain ⟨g, hg, hp⟩ := hp
    have htch : id ∈ touchX e (Op.call { callee := .value (.func f), args := ar, argTypes := at' }) := by
      simp only [touchX, hl]
      cases xs <;> simp [hx0, ptrId]
    have hR := hrow id htch _ hf g hg
    simp only [RRow] at hR
    obtain ⟨q1, q2, q3⟩ := hR
    obtain ⟨v', row', k1, k2, k3⟩ := h4 cells rest cs v o hb hc2 ρ g (rows id) (xs.map val) ap q2 q3 hargs
    have hm : ∀ t : TM, (∀ x ∈ (Op.call { callee := .value (.func f), args := ar, argTypes := at' }).operands.toList, ev t x = val x) → ar.toList.map (ev t) = .ptr g 0 :: xs.map val := fun t ht => by
      rw [List.map_congr_left fun x hx => ht x (hmem x hx), hl, List.map_cons, hp]
    have main : ∀ t L, (∀ x ∈ (Op.call { callee := .value (.func f), args := ar, argTypes := at' }).operands.toList, ev t x = val x) → L g = some (rows id) → ∀ Q os, JO P N ops Q os (t.putO d v') (upd L g row') →
        JO P N ops Q (⟨d, .call { callee := .value (.func f), args := ar, argTypes := at' }, ty, pos, af, none⟩ :: os) t L := by
      intro t L ht hL Q os K
      have := JO.call (P := P) (N := N) (ops := ops) (Q := Q) (ty := ty) (pos := pos) (af := af) (os := os) (t := t) (L := L) (xs := ar.toList) (tys := at') (R := fun r L' => r = v' ∧ L' = upd L g row') h1 h2 h3 hd (by rw [hm t ht]; exact k3 L hL) (fun r L' ⟨a, b⟩ => by rw [a, b]; exact K)
      simpa using this
    cases o with
    | none =>
      simp only at k2
      subst k2
      refine ⟨v', none, k1, trivial, fun t L ht hL Q os K => ?_⟩
      have hLg := hL id htch g hg (by rw [hf]; rfl)
      refine main t L ht hLg Q os ?_
      rw [upd_self hLg]
      exact K
    | some cells' =>
      simp only at k2
      refine ⟨v', some (g, row'), k1, ⟨hg, ?_⟩, fun t L ht hL Q os K => main t L ht (hL id htch g hg (by rw [hf]; rfl)) Q os K⟩
      simp only [RRow]
      exact ⟨k2.1.trans q1, k2.2.1.trans q2, k2.2.2⟩
theorem xpick_ok {c a b : Operand} {e eT eF : Operand → List Prop × XV} {cs : List Prop} {w : Option (Nat × XRow)} {X : Cx} (hb : xop X h e eT eF (.pick c a b) = some (cs, v, w)) (hc : ∀ p ∈ cs, p)
    (hv : (∀ p ∈ (e c).1, p) → RV ρ (e c).2 (val c))
    (hT : ∀ tb, (∀ p ∈ (e c).1, p) → (e c).2 = .v (.p (.bool tb)) → (tb = true → (∀ p ∈ (eT a).1, p) → RV ρ (eT a).2 (val a)) ∧ (tb = false → (∀ p ∈ (eF b).1, p) → RV ρ (eF b).2 (val b))) (hd : dok N d = true) :
    w = none ∧ OpOk P N ops d ty pos af (.pick c a b) ρ h rows val tch v none := by
  simp only [xop] at hb
  split at hb
  · rename_i t y z h1 h2 h3
    have main : ∀ (u : Bool), (∀ p ∈ (e c).1, p) → (t = true → ev (fun _ => .top) a = .p (.bool u) ∨ (RV ρ (eT a).2 (val a) ∧ y = u)) → (t = false → ev (fun _ => .top) b = .p (.bool u) ∨ (RV ρ (eF b).2 (val b) ∧ z = u)) →
        OpOk P N ops d ty pos af (.pick c a b) ρ h rows val tch (.v (.p (.bool u))) none := by
      intro u hp ha hb
      have hcv := hv hp
      rw [h1] at hcv
      simp only [RV] at hcv
      refine OpOk.fv _ (RV.v _ _) hd fun tm ht => ?_
      have e1 := ht c (by simp [Op.operands])
      have e2 := ht a (by simp [Op.operands])
      have e3 := ht b (by simp [Op.operands])
      have cst : ∀ o : Operand, ev (fun _ => .top) o = .p (.bool u) → ev tm o = .p (.bool u) := by
        intro o ho
        cases o with
        | tmp n => cases ho
        | const v => exact ho
        | global g => exact ho
        | func f => exact ho
      simp only [YthomfpdigmeheaaDoorAv.fv, e1, hcv]
      cases t with
      | true =>
        simp only
        rcases ha rfl with ha2 | ⟨ha2, hy⟩
        · rw [cst a ha2]
        · rw [h2] at ha2
          simp only [RV] at ha2
          rw [e2, ha2, hy]
      | false =>
        simp only
        rcases hb rfl with hb2 | ⟨hb2, hy⟩
        · rw [cst b hb2]
        · rw [h3] at hb2
          simp only [RV] at hb2
          rw [e3, hb2, hy]
    have hTT := fun hp => hT t hp h1
    split at hb
    · simp only [Option.some.injEq, Prod.mk.injEq] at hb
      obtain ⟨rfl, rfl, rfl⟩ := hb
      refine ⟨rfl, main _ (allL hc) (fun h => .inl (by rw [h]; rfl)) fun h => .inr ⟨(hTT (allL hc)).2 h fun p hp => ?_, by rw [h]; simp⟩⟩
      exact allR hc _ (List.mem_map_of_mem hp) h
    · simp only [Option.some.injEq, Prod.mk.injEq] at hb
      obtain ⟨rfl, rfl, rfl⟩ := hb
      refine ⟨rfl, main _ (allL hc) (fun h => .inr ⟨(hTT (allL hc)).1 h fun p hp => ?_, by rw [h]; simp⟩) fun h => .inl (by rw [h]; rfl)⟩
      exact allR hc _ (List.mem_map_of_mem hp) h
    · simp only [Option.some.injEq, Prod.mk.injEq] at hb
      obtain ⟨rfl, rfl, rfl⟩ := hb
      refine ⟨rfl, main _ (allL hc) (fun h => .inr ⟨(hTT (allL hc)).1 h fun p hp => ?_, by rw [h]; rfl⟩) fun h => .inr ⟨(hTT (allL hc)).2 h fun p hp => ?_, by rw [h]; rfl⟩⟩
      · exact allL (allR hc) _ (List.mem_map_of_mem hp) h
      · exact allR (allR hc) _ (List.mem_map_of_mem hp) h
  · cases hb
theorem rangeP_eq (s : Nat) : ∀ (n k : Nat), rangeP s k n = (List.range' k n).map fun i => (i * s, s)
  | 0, k => by simp [rangeP]
  | n + 1, k => by simp [rangeP, rangeP_eq s n (k + 1), List.range'_succ]
theorem ltParts_ok {n : Nat} : ∀ {l : List (Nat × Operand)}, ltParts n l = true → ∀ p ∈ l, p.1 < n
  | [], _, p, hp => by cases hp
  | (i, x) :: l, h, p, hp => by
    simp only [ltParts, Bool.and_eq_true, bltN, decide_eq_true_eq] at h
    rcases List.mem_cons.1 hp with rfl | hp
    · exact h.1
    · exact ltParts_ok h.2 p hp
theorem xbuildA_ok {X : Cx} (hX : X.ok P) {T el : TypeId} {parts : Array (Nat × Operand)} {n : Nat} {z z2 : Value} {sz b s2 b2 : Nat} {e : Operand → List Prop × XV} {out : List XV} (hu : fnd X.U T = some (.array n el)) (hi : fnd X.I T = some (z, sz, b)) (hi2 : fnd X.I el = some (z2, s2, b2))
    (hlt : ltParts n parts.toList = true) (ho : xlaid (rangeP s2 0 n) (zcells z) (xpartsV e parts.toList).2 = some out) (hc : ∀ p ∈ (xpartsV e parts.toList).1, p)
    (hv : ∀ q ∈ parts.toList, (∀ p ∈ (e q.2).1, p) → RV ρ (e q.2).2 (val q.2)) (hd : dok N d = true) {tch : List Nat} : OpOk P N ops d ty pos af (.build T parts) ρ h rows val tch (.agg out) none := by
  obtain ⟨e1, e2⟩ := xpartsV_ok ρ val parts.toList hv hc
  rw [e1, rangeP_eq, ← List.range_eq_range'] at ho
  obtain ⟨⟨out', hl, hr⟩, hall⟩ := xlaid_ok (ρ := ρ) _ (parts.toList.map fun q => (q.1, (val q.2).cells)) _ _ _ ho (zcells_ok ρ z) (by simp) (by
    intro i p q h1 h2 h3
    rw [List.getElem?_map] at h1 h2
    cases hq : parts.toList[i]? with
    | none => rw [hq] at h1; cases h1
    | some o =>
      rw [hq] at h1 h2
      obtain rfl := Option.some.inj h1
      obtain rfl := Option.some.inj h2
      exact (RV.cells h3 (e2 o (List.mem_of_getElem? hq))).1)
  refine OpOk.pure (.agg out') (by simp only [RV]; exact ⟨_, rfl, hr⟩) fun t L ht Q os K => ?_
  have hop : ∀ q ∈ parts.toList, ev t q.2 = val q.2 := fun q hq => ht q.2 (by
    simp only [Op.operands]
    simpa using ⟨q.1, by simpa using hq⟩)
  have := JO.buildArr (P := P) (N := N) (ops := ops) (Q := Q) (d := d) (ty := ty) (pos := pos) (af := af) (os := os) (t := t) (L := L) (T := T) (parts := parts.toList) (z := z) (zs := z.cells.toList.map AV.p) (out := out')
    (okU_fnd hX.U hu) (okI_fnd hX.I hi) (okI_fnd hX.I hi2) (ltParts_ok hlt) rfl (fun p hp => by
      rw [hop p hp]
      exact (RV.cells (hall _ (List.mem_map_of_mem hp)) (e2 p hp)).2) (by
      rw [← hl]
      congr 1
      apply List.map_congr_left
      intro q hq
      rw [hop q hq]) hd K
  simpa using this
theorem rowsL_len (s : Nat) : ∀ (n : Nat) (cs : List XV), (rowsL s n cs).length = n
  | 0, _ => rfl
  | n + 1, cs => by simp [rowsL, rowsL_len s n]
theorem rowsL_flat (s : Nat) : ∀ (n : Nat) (cs : List XV), ((rowsL s n cs).flatMap fun q => toAVL q.2) = (toAVL cs).take (n * s)
  | 0, cs => by simp [rowsL]
  | n + 1, cs => by
    simp only [rowsL, List.flatMap_cons]
    rw [rowsL_flat s n, xtake_eq, xdrop_eq, toAVL_map, toAVL_map, toAVL_map, List.map_take, List.map_drop, Nat.add_mul, Nat.one_mul, Nat.add_comm (n * s), List.take_add]
theorem xsliceA_ok {X : Cx} (hX : X.ok P) {T : TypeId} {x : Operand} {lo hi : Option Operand} {a : XV} {cs : List Prop} {e : Operand → List Prop × XV} (hb : xsliceA X h T e lo hi a = some (cs, v)) (hc : ∀ p ∈ cs, p) (hx : RV ρ a (val x))
    (hv : ∀ y, lo = some y ∨ hi = some y → (∀ p ∈ (e y).1, p) → RV ρ (e y).2 (val y)) (hrow : ∀ id, (ptrId a) = [id] → ∀ r, findR h id = some r → ∀ g, ρ id = some (some g) → RRow ρ r (rows id)) (hd : dok N d = true) : OpOk P N ops d ty pos af (.slice T x lo hi none) ρ h rows val (ptrId a) v none := by
  have hop : ∀ (t : TM) (y : Operand), (∀ y ∈ (Op.slice T x lo hi none).operands.toList, ev t y = val y) → (y = x ∨ lo = some y ∨ hi = some y) → ev t y = val y := by
    intro t y ht hy
    refine ht y ?_
    simp only [Op.operands]
    rcases hy with rfl | rfl | rfl <;> simp
  unfold xsliceA at hb
  split at hb
  · rename_i n el hu
    split at hb
    · rename_i z s bb ds hi2
      split at hb
      · rename_i h1 h2
        simp only [Option.some.injEq, Prod.mk.injEq] at hb
        obtain ⟨-, rfl⟩ := hb
        simp only [RV] at hx
        obtain ⟨es, hx⟩ := hx
        rw [bleN, decide_eq_true_eq, xlen_eq] at h1
        obtain ⟨ti, k1, -, k3, -⟩ := (okI_fnd hX.I hi2).get
        subst k3
        have e1 : (toAVL ds ++ es).take (n * ti.size) = vecOf n ti.size fun j => toAVL (bsF ti.size (rowsL ti.size n ds) j) := by
          rw [List.take_append, toAVL_length, show n * ti.size - ds.length = 0 by omega, List.take_zero, List.append_nil, ← rowsL_flat, flat_bs _ h2, rowsL_len]
        refine OpOk.pure (.fz n (vecOf n ti.size fun j => toAVL (bsF ti.size (rowsL ti.size n ds) j))) (by simp only [RV, toAV]) fun t L ht Q os K => JO.sliceFp (okU_fnd hX.U hu) k1 (by rw [hop t x ht (.inl rfl), hx]) hd ?_
        rw [e1]
        exact K
      · cases hb
    · rename_i z bb id o hi2
      split at hb
      · rename_i e2 ap cells p l q hh hf ho1 ho2
        split at hb
        · rename_i hle
          simp only [Option.some.injEq, Prod.mk.injEq] at hb
          obtain ⟨rfl, rfl⟩ := hb
          simp only [RV] at hx
          obtain ⟨g, hg, hx⟩ := hx
          rw [Nat.zero_mul, Nat.zero_add] at hx
          have hR := hrow id rfl _ hf g hg
          simp only [RRow] at hR
          obtain ⟨-, hRap, hR⟩ := hR
          have hlen := hR.length
          rw [bleN, decide_eq_true_eq, xlen_eq] at hle
          have m1 := optI_ok (ρ := ρ) (val := val) ho1 (allL hc) fun y hy => hv y (.inl hy)
          have m2 := optI_ok (ρ := ρ) (val := val) ho2 (allL (allR hc)) fun y hy => hv y (.inr hy)
          have hc3 := allR (allR hc)
          obtain ⟨ti, k1, -, k3, -⟩ := (okI_fnd hX.I hi2).get
          have conv : ∀ (t : TM) (o : Option Operand) (l dflt : Int), (∀ y ∈ (Op.slice T x lo hi none).operands.toList, ev t y = val y) → (∀ y, o = some y → lo = some y ∨ hi = some y) → IsI val l dflt o →
              IsI (ev t) l dflt o := by
            intro t o l dflt ht ho hm
            cases o with
            | none => exact hm
            | some y =>
              obtain ⟨k, hk⟩ := hm
              exact ⟨k, by rw [hop t y ht (.inr (ho y rfl)), hk]⟩
          refine ⟨.sl g 1 (o + l.toNat) (hh - l).toNat, none, ?_, trivial, fun t L ht hL Q os K => JO.sliceArr (r := rows id) (okU_fnd hX.U hu) k1 k3 (by rw [hop t x ht (.inl rfl), hx]) (hL id (by simp [ptrId]) g hg (by rw [hf]; rfl)) (by omega)
            (by have := conv t lo l 0 ht (fun y hy => .inl hy) m1; cases lo <;> exact this) (by have := conv t hi hh _ ht (fun y hy => .inr hy) m2; cases hi <;> exact this) hd (all1 hc3) (all2 hc3) (all3 hc3) K (by unfold Row.isc; rw [hRap]; trivial)⟩
          simp only [RV]
          exact .inl ⟨g, hg, by rw [Nat.mul_one]⟩
        · cases hb
      · cases hb
    · cases hb
  · cases hb
/-- Every operation that makes no block does what its symbolic run says. -/
theorem xbinI_ok {X : Cx} (hX : okU P X.U) {bop : BinOp} {T T' : TypeId} {x y : Operand} {a b : XV} (hb : xbinI X bop T (isC x || isC y) a b = some v) (hx : RV ρ a (val x)) (hy : RV ρ b (val y)) (hd : dok N d = true) :
    OpOk P N ops d ty pos af (.binOp bop T x y T') ρ h rows val tch v none := by
  unfold xbinI at hb
  split at hb
  · rename_i ms a' b' hu
    simp only [RV] at hx hy
    split at hb
    · rename_i r hr
      obtain rfl := Option.some.inj hb
      exact OpOk.pure _ (RV.v _ _) fun t L ht Q os k => JO.eqIface (ne := false) (okU_fnd hX hu) hr (by rw [ht x (by simp [Op.operands]), hx]) (by rw [ht y (by simp [Op.operands]), hy]) hd k
    · rename_i r hr
      obtain rfl := Option.some.inj hb
      exact OpOk.pure _ (RV.v _ _) fun t L ht Q os k => JO.eqIface (ne := true) (okU_fnd hX hu) hr (by rw [ht x (by simp [Op.operands]), hx]) (by rw [ht y (by simp [Op.operands]), hy]) hd k
    · cases hb
  · cases hb
theorem bytesL_len : ∀ l : List XV, (bytesL l).length = l.length
  | [] => rfl
  | x :: l => by simp [bytesL, bytesL_len l]
theorem x8L_av : ∀ l : List UInt8, toAVL (x8L l) = l.map byteAV
  | [] => rfl
  | b :: l => by simp only [x8L, toAVL, List.map_cons, x8L_av l]; rfl
theorem RVL_x8 : ∀ {l : List UInt8} {bs : List AV}, RVL ρ (x8L l) bs → bs = l.map byteAV
  | [], bs, h => by cases bs with
    | nil => rfl
    | cons _ _ => simp [x8L, RVL] at h
  | b :: l, bs, h => by
    cases bs with
    | nil => simp [x8L, RVL] at h
    | cons a bs =>
      simp only [x8L, RVL] at h
      obtain ⟨h1, h2⟩ := h
      simp only [X8b, RV] at h1
      rw [h1, RVL_x8 h2]
      rfl
theorem xconvS_ok {X : Cx} (hX : X.ok P) {S T : TypeId} {x : Operand} {a : XV} {cs : List Prop} {b : ByteArray} (hb : xconvS X h S T a = some (cs, b)) (hc : ∀ p ∈ cs, p) (hx : RV ρ a (val x))
    (hrow : ∀ id ∈ slId a, ∀ r, findR h id = some r → ∀ g, ρ id = some (some g) → RRow ρ r (rows id)) (hd : dok N d = true) :
    OpOk P N ops d ty pos af (.convert S T x) ρ h rows val (slId a) (.v (.p (.string b))) none := by
  unfold xconvS at hb
  split at hb
  · rename_i el hS hT
    split at hb
    · rename_i hE
      have kS := okU_fnd hX.U hS
      have kT := okU_fnd hX.U hT
      have kE := okU_fnd hX.U hE
      unfold xstr at hb
      split at hb
      · rename_i n sz f
        split at hb
        · simp only [Option.some.injEq, Prod.mk.injEq] at hb
          obtain ⟨rfl, rfl⟩ := hb
          have hf := all1 hc
          simp only [RV, toAV] at hx
          refine OpOk.pure _ (RV.v _ _) fun t L ht Q os k => JO.strFz kS kT kE (n := n) (by
            rw [ht x (by simp [Op.operands]), hx]
            congr 1
            have e1 : vecOf n 1 (fun i => toAVL (f i)) = vecOf n 1 (fun j => [byteAV (byte1 (xget (f j) 0))]) := vecOf_congr fun j hj => by
              have := congrArg toAVL (hf j hj)
              exact this
            rw [e1]
            unfold vecOf
            rw [Nat.mul_one, List.map_map]
            apply List.map_congr_left
            intro j _
            simp [Nat.mod_one]) (by simp) hd k
        · cases hb
      · rename_i id sz o n
        split at hb
        · rename_i e' ap n' f hr
          simp only [Option.some.injEq, Prod.mk.injEq] at hb
          obtain ⟨rfl, rfl⟩ := hb
          have ho : o + n ≤ n' := hc _ (by simp)
          have hf : ∀ j, j < n → f (o + j) = [X8b (byte1 (xget (f (o + j)) 0))] := hc _ (by simp)
          simp only [RV] at hx
          rcases hx with ⟨g, hg, hx⟩ | ⟨_, rfl, rfl, hx⟩
          · have hk := hrow id (by simp [slId]) _ hr g hg
            simp only [RRow] at hk
            refine ⟨_, none, RV.v _ _, trivial, fun t L ht hL Q os k => JO.strSl kS kT kE (g := g) (off := o * 1) (n := n) (r := rows id) (by rw [ht x (by simp [Op.operands]), hx]) (hL id (by simp [slId]) g hg (by rw [hr]; rfl)) (fun i b hi => ?_) (by simp) hd k⟩
            rw [List.getElem?_map] at hi
            have hin : i < n := by
              refine Nat.lt_of_not_le fun hle => ?_
              rw [List.getElem?_eq_none (by simpa using hle)] at hi
              cases hi
            rw [List.getElem?_range hin] at hi
            obtain rfl := Option.some.inj hi
            rw [hk]
            have := vecOf_get (n := n') (sz := 1) (g := fun i => toAVL (f i)) (i := o + i) (o := 0) (by omega) (by omega)
            rw [show o * 1 + i = (o + i) * 1 + 0 by omega, this, hf i hin]
            rfl
          · refine OpOk.pure _ (RV.v _ _) fun t L ht Q os k => JO.strNil kS kT kE (by rw [ht x (by simp [Op.operands]), hx]) hd k
        · rename_i e' ap cells hr
          simp only [Option.some.injEq, Prod.mk.injEq] at hb
          obtain ⟨rfl, rfl⟩ := hb
          have ho : o + n ≤ xlen cells := hc _ (by simp)
          have hf : xtake n (xdrop o cells) = x8L (bytesL (xtake n (xdrop o cells))) := hc _ (by simp)
          simp only [RV] at hx
          have hlen : (bytesL (xtake n (xdrop o cells))).length = n := by
            rw [bytesL_len, xtake_eq, xdrop_eq, List.length_take, List.length_drop, ← xlen_eq]
            omega
          rcases hx with ⟨g, hg, hx⟩ | ⟨_, rfl, rfl, hx⟩
          · have hk := hrow id (by simp [slId]) _ hr g hg
            simp only [RRow] at hk
            refine ⟨_, none, RV.v _ _, trivial, fun t L ht hL Q os k => JO.strSl kS kT kE (g := g) (off := o * 1) (n := n) (r := rows id) (by rw [ht x (by simp [Op.operands]), hx]) (hL id (by simp [slId]) g hg (by rw [hr]; rfl)) (fun i b hi => ?_) hlen.symm hd k⟩
            have hin : i < n := by
              have := (List.getElem?_eq_some_iff.1 hi).1
              omega
            have h1 : (bytesL (xtake n (xdrop o cells))).map byteAV = ((rows id).cs.drop o).take n := by
              have h2 : RVL ρ (xtake n (xdrop o cells)) (((rows id).cs.drop o).take n) := by
                rw [xtake_eq, xdrop_eq]
                exact RVL.take n (RVL.drop o hk.2.2)
              rw [hf] at h2
              rw [← RVL_x8 h2]
            have h3 := congrArg (·[i]?) h1
            simp only [List.getElem?_map, hi, Option.map_some, List.getElem?_take, List.getElem?_drop] at h3
            rw [if_pos hin] at h3
            rw [Nat.mul_one]
            exact h3.symm
          · refine OpOk.pure _ (RV.v _ _) fun t L ht Q os k => JO.strNil kS kT kE (by rw [ht x (by simp [Op.operands]), hx]) hd k
        · cases hb
      · cases hb
    · rename_i hE
      have kS := okU_fnd hX.U hS
      have kT := okU_fnd hX.U hT
      have kE := okU_fnd hX.U hE
      unfold xrunes at hb
      split at hb
      · rename_i n sz f
        split at hb
        · simp only [Option.some.injEq, Prod.mk.injEq] at hb
          obtain ⟨rfl, rfl⟩ := hb
          have hf := all1 hc
          simp only [RV, toAV] at hx
          refine OpOk.pure _ (RV.v _ _) fun t L ht Q os k => JO.runesFz kS kT kE (n := n) (by
            rw [ht x (by simp [Op.operands]), hx]
            congr 1
            have e1 : vecOf n 1 (fun i => toAVL (f i)) = vecOf n 1 (fun j => [AV.p (.int .i32 (rune1 (xget (f j) 0)))]) := vecOf_congr fun j hj => by
              have := congrArg toAVL (hf j hj)
              exact this
            rw [e1]
            unfold vecOf
            rw [Nat.mul_one, List.map_map]
            apply List.map_congr_left
            intro j _
            simp [Nat.mod_one]) (by simp) hd k
        · cases hb
      · cases hb
    · cases hb
  · cases hb
theorem xsrc_ok {h : List (Nat × XRow)} {sz m : Nat} {y : XV} {b : AV} {g : Nat → List XV} (hs : xsrc h sz y = some (m, g)) (hy : RV ρ y b) (L' : GH) : srcOf L' b = some (m, vecOf m sz fun i => toAVL (g i)) := by
  unfold xsrc at hs
  split at hs
  · split at hs
    · rename_i hb
      rw [beqN, decide_eq_true_eq] at hb
      simp only [Option.some.injEq, Prod.mk.injEq] at hs
      obtain ⟨rfl, rfl⟩ := hs
      subst hb
      simp only [RV, toAV] at hy
      rw [hy]; rfl
    · cases hs
  · split at hs
    · rename_i hb
      rw [beqN, decide_eq_true_eq] at hb
      simp only [Option.some.injEq, Prod.mk.injEq] at hs
      obtain ⟨rfl, rfl⟩ := hs
      subst hb
      simp only [RV] at hy
      rw [hy]; rfl
    · cases hs
  · split at hs
    · simp only [Option.some.injEq, Prod.mk.injEq] at hs
      obtain ⟨rfl, rfl⟩ := hs
      simp only [RV] at hy
      rw [hy]
      simp [srcOf, vecOf]
    · cases hs
  · cases hs
theorem xsrcO_ok {h : List (Nat × XRow)} {sz m : Nat} {y : XV} {b : AV} {cs : List Prop} {g : Nat → List XV} (hs : xsrcO h sz y = some (cs, m, g)) (hc : ∀ p ∈ cs, p) (hy : RV ρ y b)
    (hrow : ∀ id ∈ slId y, ∀ r, findR h id = some r → ∀ g, ρ id = some (some g) → RRow ρ r (rows id)) (L' : GH) (hL : ∀ id ∈ slId y, ∀ g, ρ id = some (some g) → (findR h id).isSome = true → L' g = some (rows id)) :
    srcOf L' b = some (m, vecOf m sz fun i => toAVL (g i)) := by
  unfold xsrcO at hs
  split at hs
  · rename_i id s o m'
    split at hs
    · rename_i e ap n' s' f hf
      split at hs
      · rename_i q1 q2
        simp only [Option.some.injEq, Prod.mk.injEq] at hs
        obtain ⟨rfl, rfl, rfl⟩ := hs
        rw [beqN, decide_eq_true_eq] at q1 q2
        subst q1 q2
        have ho : o + m' ≤ n' := all1 hc
        simp only [RV] at hy
        rcases hy with ⟨g, hg, hy⟩ | ⟨_, rfl, rfl, hy⟩
        · have hk := hrow id (by simp [slId]) _ hf g hg
          simp only [RRow] at hk
          have hl := hL id (by simp [slId]) g hg (by rw [hf]; rfl)
          rw [hy]
          simp only [srcOf, hl, Option.map_some, hk]
          congr 2
          rw [vecOf_cut (by omega)]
        · rw [hy]
          simp [srcOf, vecOf]
      · cases hs
    · cases hs
  · split at hs
    · rename_i m' g' hx
      simp only [Option.some.injEq, Prod.mk.injEq] at hs
      obtain ⟨rfl, rfl, rfl⟩ := hs
      exact xsrc_ok hx hy L'
    · cases hs
/-- An append to a slice without spare room. -/
theorem xappP_ok {X : Cx} (hX : X.ok P) {c : Call} {x y : Operand} {T : TypeId} {e : Operand → List Prop × XV} {cs : List Prop} (hcc : c.callee = .builtin .append) (hca : c.args.toList = [x, y]) (hct : c.argTypes.toList = [T, T]) (hb : xappP X h T (e x).2 (e y).2 = some (cs, v))
    (hc : ∀ p ∈ (e x).1 ++ ((e y).1 ++ cs), p) (hv : ∀ x ∈ (Op.call c).operands.toList, (∀ p ∈ (e x).1, p) → RV ρ (e x).2 (val x)) (hrow : ∀ id ∈ touchX e (.call c), ∀ r, findR h id = some r → ∀ g, ρ id = some (some g) → RRow ρ r (rows id)) (hd : dok N d = true) :
    OpOk P N ops d ty pos af (.call c) ρ h rows val (touchX e (.call c)) v none := by
  obtain ⟨ce, ar, at'⟩ := c
  simp only at hcc hca hct
  subst hcc
  have h1 : ar = #[x, y] := by rw [← Array.toArray_toList (xs := ar), hca]
  have h2 : at' = #[T, T] := by rw [← Array.toArray_toList (xs := at'), hct]
  subst h1 h2
  have e1 := hv x (by simp [Op.operands, Call.operands]) (allL hc)
  have e2 := hv y (by simp [Op.operands, Call.operands]) (allL (allR hc))
  have hcs := allR (allR hc)
  have htch : ∀ id ∈ slId (e y).2, id ∈ touchX e (.call { callee := .builtin .append, args := #[x, y], argTypes := #[T, T] }) := fun id hid => by
    simp only [touchX]
    exact List.mem_append_right _ hid
  unfold xappP at hb
  split at hb
  · rename_i el n s f hu hx
    split at hb
    · rename_i z sz b hi
      split at hb
      · rename_i s' cs' m g q1 q2 hsr
        simp only [zipBif_eq, Option.some.injEq, Prod.mk.injEq] at hb
        obtain ⟨rfl, rfl⟩ := hb
        rw [beqN, decide_eq_true_eq] at q1 q2
        subst q2
        have hb1 : (n + m) * b ≤ 140737488355328 := all1 (allR hcs)
        have hb2 : n + m ≤ 140737488355328 := all2 (allR hcs)
        rw [hx] at e1
        simp only [RV] at e1
        obtain ⟨ti, k1, k2, k3, k4⟩ := (okI_fnd hX.I hi).get
        refine ⟨.fz (n + m) (vecOf (n + m) (s' + 1) fun j => toAVL (bif Nat.blt j n then f j else g (j - n))), none, by simp only [RV, toAV], trivial, fun t L ht hL Q os K => ?_⟩
        refine JO.appendC (L := L) (n := n) (m := m) (cs := vecOf n (s' + 1) fun i => toAVL (f i)) (ys := vecOf m (s' + 1) fun i => toAVL (g i)) (okU_fnd hX.U hu) k1 k2 k3 (by simpa using q1) (by rw [ht x (by simp [Op.operands, Call.operands]), e1]) (vecOf_length _ _ _)
          (by rw [ht y (by simp [Op.operands, Call.operands])]; exact xsrcO_ok hsr (allL hcs) e2 (fun id hid => hrow id (htch id hid)) L fun id hid => hL id (htch id hid)) (vecOf_length _ _ _) (by rw [k4]; exact hb1) hb2 (Nat.succ_pos _) hd ?_
        rw [vecOf_app]
        have : vecOf (n + m) (s' + 1) (fun j => bif Nat.blt j n then toAVL (f j) else toAVL (g (j - n))) = vecOf (n + m) (s' + 1) (fun j => toAVL (bif Nat.blt j n then f j else g (j - n))) := by
          apply vecOf_congr
          intro j _
          cases Nat.blt j n <;> rfl
        rw [this]
        exact K
      · cases hb
    · cases hb
  · cases hb
theorem xop_ok {X : Cx} (hX : X.ok P) {e eT eF : Operand → List Prop × XV} {cs : List Prop} {w : Option (Nat × XRow)} (hv : ∀ x ∈ op.operands.toList, (∀ p ∈ (e x).1, p) → RV ρ (e x).2 (val x))
    (hT : ∀ c a b, op = .pick c a b → ∀ tb, (∀ p ∈ (e c).1, p) → (e c).2 = .v (.p (.bool tb)) → (tb = true → (∀ p ∈ (eT a).1, p) → RV ρ (eT a).2 (val a)) ∧ (tb = false → (∀ p ∈ (eF b).1, p) → RV ρ (eF b).2 (val b)))
    (hrow : ∀ id ∈ touchX e op, ∀ r, findR h id = some r → ∀ g, ρ id = some (some g) → RRow ρ r (rows id)) (hb : xop X h e eT eF op = some (cs, v, w)) (hc : ∀ p ∈ cs, p) (hd : dok N d = true) (hw : ∀ T x y, op = .store T x y → d = none) :
    OpOk P N ops d ty pos af op ρ h rows val (touchX e op) v w := by
  cases op with
  | move x =>
    simp only [xop, Option.some.injEq, Prod.mk.injEq] at hb
    obtain ⟨rfl, rfl, rfl⟩ := hb
    exact OpOk.fv _ (hv x (by simp [Op.operands]) hc) hd fun t ht => by simp only [YthomfpdigmeheaaDoorAv.fv, ht x (by simp [Op.operands])]
  | assign x =>
    simp only [xop, Option.some.injEq, Prod.mk.injEq] at hb
    obtain ⟨rfl, rfl, rfl⟩ := hb
    exact OpOk.fv _ (hv x (by simp [Op.operands]) hc) hd fun t ht => by simp only [YthomfpdigmeheaaDoorAv.fv, ht x (by simp [Op.operands])]
  | pick c a b =>
    obtain ⟨rfl, h1⟩ := xpick_ok (P := P) (N := N) (ops := ops) (d := d) (ty := ty) (pos := pos) (af := af) (rows := rows) (tch := touchX e (.pick c a b)) hb hc (hv c (by simp [Op.operands])) (hT c a b rfl) hd
    exact h1
  | binOp bop T x y T' =>
    simp only [xop] at hb
    split at hb
    · split at hb
      · rename_i cs' v' hx
        simp only [Option.some.injEq, Prod.mk.injEq] at hb
        obtain ⟨rfl, rfl, rfl⟩ := hb
        exact xbin_ok hX.U hX.I hX.E hx (allR (allR hc)) (hv x (by simp [Op.operands]) (allL hc)) (hv y (by simp [Op.operands]) (allL (allR hc))) hd
      · split at hb
        · rename_i v' hx
          simp only [Option.some.injEq, Prod.mk.injEq] at hb
          obtain ⟨rfl, rfl, rfl⟩ := hb
          exact xbinI_ok hX.U hx (hv x (by simp [Op.operands]) (allL hc)) (hv y (by simp [Op.operands]) (allR hc)) hd
        · cases hb
    · split at hb
      · rename_i c' v' hx
        simp only [Option.some.injEq, Prod.mk.injEq] at hb
        obtain ⟨rfl, rfl, rfl⟩ := hb
        have h0 : c' := hc c' (by simp)
        have hx' : xbin X bop T (e x).2 (e y).2 = some ([], v') := by
          unfold xsh at hx
          split at hx
          · rename_i k a k' b h1 h2
            rw [h1, h2]
            split at hx
            · simp only [Option.some.injEq, Prod.mk.injEq] at hx
              obtain ⟨rfl, rfl⟩ := hx
              have : ¬ b < 0 := by omega
              simp [xbin, ibx, ishift, this]
            · simp only [Option.some.injEq, Prod.mk.injEq] at hx
              obtain ⟨rfl, rfl⟩ := hx
              have : ¬ b < 0 := by omega
              simp [xbin, ibx, ishift, this]
            · cases hx
          · cases hx
        exact xbin_ok hX.U hX.I hX.E hx' (by simp) (hv x (by simp [Op.operands]) (allL hc)) (hv y (by simp [Op.operands]) (allL (allR hc))) hd
      · cases hb
  | makeInterface T x =>
    simp only [xop] at hb
    split at hb
    · rename_i u hu
      split at hb
      · rename_i z hn hz
        simp only [Option.some.injEq, Prod.mk.injEq] at hb
        obtain ⟨rfl, rfl, rfl⟩ := hb
        have hx := hv x (by simp [Op.operands]) hc
        rw [hz] at hx
        simp only [RV] at hx
        exact OpOk.pure _ (RV.v _ _) fun t L ht Q os k => JO.mkIface (okU_fnd hX.U hu) hn (by rw [ht x (by simp [Op.operands]), hx]) hd k
      · rename_i hn _
        simp only [Option.some.injEq, Prod.mk.injEq] at hb
        obtain ⟨rfl, rfl, rfl⟩ := hb
        exact OpOk.pure _ (RV.v _ _) fun t L ht Q os k => JO.mkIfaceAny (okU_fnd hX.U hu) hn hd k
      · cases hb
    · cases hb
  | unOp uop T x =>
    simp only [xop] at hb
    split at hb
    · rename_i b hx
      simp only [Option.some.injEq, Prod.mk.injEq] at hb
      obtain ⟨rfl, rfl, rfl⟩ := hb
      have := hv x (by simp [Op.operands]) hc
      rw [hx] at this
      simp only [RV] at this
      exact OpOk.fv _ (RV.v _ _) hd fun t ht => by simp only [YthomfpdigmeheaaDoorAv.fv, ht x (by simp [Op.operands]), this]
    · rename_i k b hx
      simp only [Option.some.injEq, Prod.mk.injEq] at hb
      obtain ⟨rfl, rfl, rfl⟩ := hb
      have := hv x (by simp [Op.operands]) hc
      rw [hx] at this
      simp only [RV] at this
      exact OpOk.fv _ (RV.v _ _) hd fun t ht => by simp only [YthomfpdigmeheaaDoorAv.fv, ht x (by simp [Op.operands]), this]
    · cases hb
  | extract x i =>
    simp only [xop] at hb
    split at hb
    · rename_i l hx
      split at hb
      · rename_i hlt
        simp only [Option.some.injEq, Prod.mk.injEq] at hb
        obtain ⟨rfl, rfl, rfl⟩ := hb
        have := hv x (by simp [Op.operands]) hc
        rw [hx] at this
        simp only [RV] at this
        obtain ⟨bs, h1, h2⟩ := this
        obtain ⟨b, h3, h4⟩ := h2.getD' i hlt
        exact OpOk.fv b h4 hd fun t ht => by simp only [YthomfpdigmeheaaDoorAv.fv, ht x (by simp [Op.operands]), h1]; exact h3
      · cases hb
    · cases hb
  | field T x i =>
    simp only [xop] at hb
    split at hb
    · rename_i u hx
      simp only [Option.some.injEq, Prod.mk.injEq] at hb
      obtain ⟨rfl, rfl, rfl⟩ := hb
      exact xfieldV_ok hX hx (hv x (by simp [Op.operands]) hc) hd
    · cases hb
  | nilCheck x =>
    simp only [xop] at hb
    split at hb
    · rename_i id sz i o hx
      simp only [Option.some.injEq, Prod.mk.injEq] at hb
      obtain ⟨rfl, rfl, rfl⟩ := hb
      have := hv x (by simp [Op.operands]) hc
      rw [hx] at this
      have h0 := this
      simp only [RV] at this
      obtain ⟨g, _, h1⟩ := this
      exact OpOk.fv _ h0 hd fun t ht => by simp only [YthomfpdigmeheaaDoorAv.fv, ht x (by simp [Op.operands]), h1]
    · rename_i ds hx
      simp only [Option.some.injEq, Prod.mk.injEq] at hb
      obtain ⟨rfl, rfl, rfl⟩ := hb
      have := hv x (by simp [Op.operands]) hc
      rw [hx] at this
      have h0 := this
      simp only [RV] at this
      obtain ⟨es, h1⟩ := this
      exact OpOk.fv _ h0 hd fun t ht => by simp only [YthomfpdigmeheaaDoorAv.fv, ht x (by simp [Op.operands]), h1]
    · cases hb
  | fieldAddr T x i =>
    simp only [xop] at hb
    split at hb
    · rename_i u hx
      simp only [Option.some.injEq, Prod.mk.injEq] at hb
      obtain ⟨rfl, rfl, rfl⟩ := hb
      exact xfield_ok hX hx (hv x (by simp [Op.operands]) hc) hd
    · cases hb
  | indexAddr T x y =>
    simp only [xop] at hb
    split at hb
    · rename_i k j hy
      split at hb
      · rename_i cs' u hx
        simp only [Option.some.injEq, Prod.mk.injEq] at hb
        obtain ⟨rfl, rfl, rfl⟩ := hb
        have h2 := hv y (by simp [Op.operands]) (allL (allR hc))
        rw [hy] at h2
        exact xindex_ok hX hx (allR (allR hc)) (hv x (by simp [Op.operands]) (allL hc)) h2 hd
      · cases hb
    · cases hb
  | index T x y =>
    simp only [xop] at hb
    split at hb
    · rename_i b k j hx hy hs
      simp only [Option.some.injEq, Prod.mk.injEq] at hb
      obtain ⟨rfl, rfl, rfl⟩ := hb
      have h1 := hv x (by simp [Op.operands]) (allL hc)
      have h2 := hv y (by simp [Op.operands]) (allL (allR hc))
      rw [hx] at h1
      rw [hy] at h2
      simp only [RV] at h1 h2
      unfold strB at hs
      split at hs
      · rename_i hu
        exact OpOk.pure _ (RV.v _ _) fun t L ht Q os K => JO.idxStr (okU_fnd hX.U hu) (by rw [ht x (by simp [Op.operands]), h1]) (by rw [ht y (by simp [Op.operands]), h2]) hd (all1 (allR (allR hc))) (all2 (allR (allR hc))) K
      · cases hs
    · rename_i ls k j hx hy hs
      split at hb
      · rename_i n el hu
        split at hb
        · rename_i z bb aa hag hi hsel
          simp only [Option.some.injEq, Prod.mk.injEq] at hb
          obtain ⟨rfl, rfl, rfl⟩ := hb
          have h1 := hv x (by simp [Op.operands]) (allL hc)
          have h2 := hv y (by simp [Op.operands]) (allL (allR hc))
          rw [hx] at h1
          rw [hy] at h2
          simp only [RV] at h1 h2
          obtain ⟨bs, h1, hr⟩ := h1
          obtain ⟨a', hcell, rfl⟩ := xsel_ok hsel (all3 (allR (allR hc)))
          rw [xtake_eq, List.getElem?_take] at hcell
          split at hcell
          · have hlt : j.toNat < ls.length := by
              rcases Nat.lt_or_ge j.toNat ls.length with h | h
              · exact h
              · rw [List.getElem?_eq_none h] at hcell; cases hcell
            obtain ⟨c, hcc, hv2⟩ := hr.get j.toNat hlt
            rw [List.getD_eq_getElem?_getD, hcell] at hv2
            simp only [Option.getD_some, RV] at hv2
            subst hv2
            obtain ⟨u, hu2, hag2⟩ := aggB_ok hX.U hag
            exact OpOk.pure _ (RV.v _ _) fun t L ht Q os K => JO.index1 (okU_fnd hX.U hu) hu2 hag2 (okI_fnd hX.I hi) (by rw [ht x (by simp [Op.operands]), h1]) (by rw [ht y (by simp [Op.operands]), h2]) (all1 (allR (allR hc))) (all2 (allR (allR hc))) hcc hd K
          · cases hcell
        · cases hb
      · cases hb
    · cases hb
  | load T x =>
    simp only [xop] at hb
    split at hb
    · rename_i ag z m b ha hi
      split at hb
      · rename_i cs' u hx
        simp only [Option.some.injEq, Prod.mk.injEq] at hb
        obtain ⟨rfl, rfl, rfl⟩ := hb
        exact xload_ok hX ha hi hx (allR hc) (hv x (by simp [Op.operands]) (allL hc)) (fun id hid r hr g hg => hrow id (by simp only [touchX]; rw [hid]; simp) r hr g hg) hd
      · cases hb
    · cases hb
  | store T x y =>
    simp only [xop] at hb
    split at hb
    · rename_i z m b hi
      split at hb
      · rename_i hm h1
        split at hb
        · rename_i cs' u hx
          simp only [Option.some.injEq, Prod.mk.injEq] at hb
          obtain ⟨rfl, rfl, rfl⟩ := hb
          have := hw _ _ _ rfl
          subst this
          exact xstore_ok hX hi hm h1 hx (allR (allR hc)) (hv x (by simp [Op.operands]) (allL hc)) (hv y (by simp [Op.operands]) (allL (allR hc))) (fun id hid r hr g hg => hrow id (by simp only [touchX]; rw [hid]; simp) r hr g hg)
        · cases hb
      · cases hb
    · cases hb
  | build T parts =>
    simp only [xop] at hb
    split at hb
    · rename_i fs z s b hu hi
      split at hb
      · rename_i pl hp
        split at hb
        · rename_i out ho
          simp only [Option.some.injEq, Prod.mk.injEq] at hb
          obtain ⟨rfl, rfl, rfl⟩ := hb
          exact xbuild_ok hX hu hi hp ho hc (fun q hq => hv q.2 (by simp only [Op.operands]; simpa using ⟨q.1, by simpa using hq⟩)) hd
        · cases hb
      · cases hb
    · rename_i n el z s b hu hi
      split at hb
      · rename_i z2 s2 b2 hi2
        split at hb
        · rename_i out hlt ho
          simp only [Option.some.injEq, Prod.mk.injEq] at hb
          obtain ⟨rfl, rfl, rfl⟩ := hb
          exact xbuildA_ok hX hu hi hi2 hlt ho hc (fun q hq => hv q.2 (by simp only [Op.operands]; simpa using ⟨q.1, by simpa using hq⟩)) hd
        · cases hb
      · cases hb
    · cases hb
  | buildSlice T n parts =>
    simp only [xop] at hb
    split at hb
    · rename_i el hu
      split at hb
      · rename_i z s b hi
        split at hb
        · rename_i h1 h2 h3 h4
          split at hb
          · simp only [Option.some.injEq, Prod.mk.injEq] at hb
            obtain ⟨rfl, rfl, rfl⟩ := hb
            exact (xlit_ok hX hu hi h1 h2 h3 h4 hc (fun q hq => hv q.2 (by simp only [Op.operands]; simpa using ⟨q.1, by simpa using hq⟩)) hd).2
          · simp only [Option.some.injEq, Prod.mk.injEq] at hb
            obtain ⟨rfl, rfl, rfl⟩ := hb
            exact (xlit_ok hX hu hi h1 h2 h3 h4 hc (fun q hq => hv q.2 (by simp only [Op.operands]; simpa using ⟨q.1, by simpa using hq⟩)) hd).1
        · cases hb
      · cases hb
    · cases hb
  | slice T x lo hi mx =>
    cases mx with
    | some mm =>
      cases lo with
      | some _ => simp [xop] at hb
      | none =>
        cases hi with
        | none => simp [xop] at hb
        | some hh =>
          simp only [xop] at hb
          split at hb
          · rename_i n sz f k1 a k2 b el e1 e2 e3 hu
            split at hb
            · rename_i r hI
              simp only [Option.some.injEq, Prod.mk.injEq] at hb
              obtain ⟨rfl, rfl, rfl⟩ := hb
              obtain ⟨z, m', b'⟩ := r
              obtain ⟨ti, k1', _, _, _⟩ := (okI_fnd hX.I hI).get
              have hx := hv x (by simp [Op.operands]) (allL hc)
              have hh' := hv hh (by simp [Op.operands]) (allL (allR hc))
              have hm' := hv mm (by simp [Op.operands]) (allL (allR (allR hc)))
              have ea : a = n := all1 (allR (allR (allR hc)))
              have eb : b = n := all2 (allR (allR (allR hc)))
              rw [e1] at hx
              rw [e2] at hh'
              rw [e3] at hm'
              simp only [RV, toAV] at hx hh' hm'
              subst ea
              subst eb
              exact OpOk.pure _ (by simp only [RV]; rfl) fun t L ht Q os k => JO.slice3 (okU_fnd hX.U hu) k1' (by rw [ht x (by simp [Op.operands]), hx]) (by rw [ht hh (by simp [Op.operands]), hh']) (by rw [ht mm (by simp [Op.operands]), hm']) hd k
            · cases hb
          · cases hb
    | none =>
      simp only [xop] at hb
      split at hb
      · rename_i cs' u hx
        simp only [Option.some.injEq, Prod.mk.injEq] at hb
        obtain ⟨rfl, rfl, rfl⟩ := hb
        exact xslice_ok hX hx (allR hc) (hv x (by simp [Op.operands]) (allL hc)) (fun y hy => hv y (by simp only [Op.operands]; rcases hy with rfl | rfl <;> simp)) hd
      · split at hb
        · rename_i cs' u hx
          simp only [Option.some.injEq, Prod.mk.injEq] at hb
          obtain ⟨rfl, rfl, rfl⟩ := hb
          exact xsliceA_ok hX hx (allR hc) (hv x (by simp [Op.operands]) (allL hc)) (fun y hy => hv y (by simp only [Op.operands]; rcases hy with rfl | rfl <;> simp)) (fun id hid r hr g hg => hrow id (by simp only [touchX]; rw [hid]; simp) r hr g hg) hd
        · cases hb
  | sliceToArrayPointer T x =>
    simp only [xop] at hb
    split at hb
    · rename_i n el id off m hu hx
      simp only [Option.some.injEq, Prod.mk.injEq] at hb
      obtain ⟨rfl, rfl, rfl⟩ := hb
      have h1 := hv x (by simp [Op.operands]) (allL hc)
      have hnm : n + 1 ≤ m := all1 (allR hc)
      rw [hx] at h1
      simp only [RV] at h1
      rcases h1 with ⟨g, hg, h1⟩ | ⟨_, h0, _⟩
      · refine OpOk.pure _ (by simp only [RV]; exact ⟨g, hg, rfl⟩) fun t L ht Q os K => JO.toArr (okU_fnd hX.U hu) (by rw [ht x (by simp [Op.operands]), h1]) hnm (by omega) hd ?_
        rw [Nat.zero_mul, Nat.zero_add] at K
        rw [Nat.mul_one]
        exact K
      · omega
    · cases hb
  | convert S T x =>
    simp only [xop] at hb
    split at hb
    · rename_i cs' u hx
      simp only [Option.some.injEq, Prod.mk.injEq] at hb
      obtain ⟨rfl, rfl, rfl⟩ := hb
      exact xconv_ok hX hx (allR hc) (hv x (by simp [Op.operands]) (allL hc)) hd
    · split at hb
      · rename_i cs' b hx
        simp only [Option.some.injEq, Prod.mk.injEq] at hb
        obtain ⟨rfl, rfl, rfl⟩ := hb
        exact xconvS_ok hX hx (allR hc) (hv x (by simp [Op.operands]) (allL hc)) (fun id hid r hr g hg => hrow id (by simp only [touchX]; exact hid) r hr g hg) hd
      · cases hb
  | call c =>
    simp only [xop] at hb
    split at hb
    · rename_i hcc
      split at hb
      · rename_i x T hca hct
        split at hb
        · rename_i u hx
          simp only [Option.some.injEq, Prod.mk.injEq] at hb
          obtain ⟨rfl, rfl, rfl⟩ := hb
          refine xlenV_ok hX hcc hca hct hx (hv x ?_ hc) hd
          have : c.args = #[x] := by rw [← Array.toArray_toList (xs := c.args), hca]
          simp [Op.operands, Call.operands, this]
        · cases hb
      · cases hb
    · rename_i hcc
      split at hb
      · rename_i x y T T' hK hca hct
        split at hb
        · rename_i cs' u hTT hx
          simp only [Option.some.injEq, Prod.mk.injEq] at hb
          obtain ⟨rfl, rfl, rfl⟩ := hb
          rw [beqN, decide_eq_true_eq] at hTT
          subst hTT
          exact xappP_ok hX hcc hca hct hx hc hv hrow hd
        · cases hb
      · cases hb
    · rename_i hcc
      split at hb
      · rename_i u hx
        simp only [Option.some.injEq, Prod.mk.injEq] at hb
        obtain ⟨rfl, rfl, rfl⟩ := hb
        exact xmin_ok hcc hx hc hv hd
      · cases hb
    · rename_i hcc
      split at hb
      · rename_i u hx
        simp only [Option.some.injEq, Prod.mk.injEq] at hb
        obtain ⟨rfl, rfl, rfl⟩ := hb
        exact xmax_ok hcc hx hc hv hd
      · cases hb
    · rename_i f hcc
      split at hb
      · rename_i C hC
        split at hb
        · rename_i cs' u hx
          simp only [Option.some.injEq, Prod.mk.injEq] at hb
          obtain ⟨rfl, rfl, rfl⟩ := hb
          exact xcall_ok hX hcc hC hx (allL hc) (allR hc) hv hd
        · cases hb
      · split at hb
        · rename_i H id rest hH ha
          split at hb
          · rename_i el ap cells hf
            split at hb
            · rename_i cs' u hx
              simp only [Option.some.injEq, Prod.mk.injEq] at hb
              obtain ⟨rfl, rfl, rfl⟩ := hb
              exact xcallH_ok (o := none) hX hcc hH ha hf hx (allL hc) (allR hc) hv hrow hd
            · rename_i cs' u cells' hx
              simp only [Option.some.injEq, Prod.mk.injEq] at hb
              obtain ⟨rfl, rfl, rfl⟩ := hb
              exact xcallH_ok (o := some cells') hX hcc hH ha hf hx (allL hc) (allR hc) hv hrow hd
            · cases hb
          · cases hb
        · cases hb
    · cases hb
  | _ => simp [xop] at hb
end
end Go.Proofs.YthomfpdigmeheaaDoorAv
set_option linter.unusedVariables false
set_option linter.unusedSimpArgs false
namespace Go.Proofs.YthomfpdigmeheaaDoorAv
open Go Go.RowKit
theorem Rel.put {F : Fr} {ρ : Rho} {S : XS} {t : TM} {L : GH} (h : Rel F ρ S t L) (d : Option Nat) {v : XV} {b : AV} (hv : RV ρ v b) : Rel F ρ (S.put d v) (t.putO d b) L := by
  cases d with
  | none => exact h
  | some d =>
    refine ⟨fun i => ?_, h.rw, h.inj, h.nx, h.fr, h.pin, h.gh⟩
    simp only [XS.put, TM.putO, TM.put]
    rw [look_put]
    split
    · exact hv
    · exact h.sl i
theorem RR.some_g {ρ : Rho} {L : GH} {id g : Nat} {r : XRow} (h : RR ρ L id r) (hg : ρ id = some (some g)) : ∃ row, L g = some row ∧ RRow ρ r row := by
  rcases h with ⟨g', row, h1, h2, h3⟩ | ⟨h1, _⟩
  · rw [hg] at h1
    obtain rfl := Option.some.inj (Option.some.inj h1)
    exact ⟨row, h2, h3⟩
  · rw [hg] at h1; cases h1
theorem Rel.wr {F : Fr} {ρ : Rho} {S : XS} {t : TM} {L : GH} (h : Rel F ρ S t L) {id g : Nat} {r : XRow} {row : Row} (hid : (findR S.h id).isSome = true) (hg : ρ id = some (some g)) (hr : RRow ρ r row) (h1 : ∀ e ap cs, findR S.h id = some (.one e ap cs) → ∃ e' ap' cs', r = .one e' ap' cs') : Rel F ρ (S.wr (some (id, r))) t (upd L g row) := by
  have hdom : ∀ i, (findR ((id, r) :: delR S.h id) i).isSome = (findR S.h i).isSome := by
    intro i
    rw [findR_put, findR_del]
    by_cases hi : i = id
    · rw [if_pos hi, hi, hid]; rfl
    · rw [if_neg hi, if_neg hi]
  refine ⟨h.sl, fun i q hq => ?_, fun i j g' hi hj => ?_, h.nx, fun b q hb => ?_, fun hp => ?_, h.gh⟩
  · simp only [XS.wr] at hq
    rw [findR_put, findR_del] at hq
    by_cases hi : i = id
    · rw [if_pos hi] at hq
      obtain rfl := Option.some.inj hq
      subst hi
      exact .inl ⟨g, row, hg, upd_same _ _ _, hr⟩
    · rw [if_neg hi, if_neg hi] at hq
      rcases h.rw i q hq with ⟨g', row', h1, h2, h3⟩ | h1
      · refine .inl ⟨g', row', h1, ?_, h3⟩
        rw [upd_ne]
        · exact h2
        · rintro rfl
          exact hi (h.inj i id _ (by rw [hq]; rfl) hid h1 hg)
      · exact .inr h1
  · simp only [XS.wr] at hi hj
    rw [hdom] at hi hj
    exact h.inj i j g' hi hj
  · obtain ⟨h1, h2⟩ := h.fr b q hb
    refine ⟨?_, fun i hi => ?_⟩
    · rw [upd_ne]
      · exact h1
      · rintro rfl
        exact h2 id hid hg
    · simp only [XS.wr] at hi
      rw [hdom] at hi
      exact h2 i hi
  · obtain ⟨p1, p2, e, ap, cs, p3⟩ := h.pin hp
    refine ⟨p1, p2, ?_⟩
    simp only [XS.wr]
    rw [findR_put, findR_del]
    by_cases h0 : 0 = id
    · rw [if_pos h0]
      subst h0
      obtain ⟨e', ap', cs', rfl⟩ := h1 e ap cs p3
      exact ⟨e', ap', cs', rfl⟩
    · rw [if_neg h0, if_neg h0]
      exact ⟨e, ap, cs, p3⟩
/-! A block's number that is told anew -/
def Rho.set (ρ : Rho) (id : Nat) (o : Option Nat) : Rho := fun i => if i = id then some o else ρ i
mutual
theorem RV.set {ρ : Rho} {id : Nat} {o : Option Nat} : ∀ (x : XV) (b : AV), x.has id = false → RV ρ x b → RV (ρ.set id o) x b
  | .v a, b, _, k => by simpa [RV] using k
  | .sl i sz off n, b, hh, k => by
    simp only [XV.has, beqN, decide_eq_false_iff_not] at hh
    simp only [RV] at k ⊢
    have e : (ρ.set id o) i = ρ i := by unfold Rho.set; rw [if_neg hh]
    rw [e]; exact k
  | .ptr i sz j q, b, hh, k => by
    simp only [XV.has, beqN, decide_eq_false_iff_not] at hh
    simp only [RV] at k ⊢
    have e : (ρ.set id o) i = ρ i := by unfold Rho.set; rw [if_neg hh]
    rw [e]; exact k
  | .fz n sz f, b, _, k => by simpa [RV] using k
  | .fzc n sz f, b, _, k => by simpa [RV] using k
  | .fp cs, b, _, k => by simpa [RV] using k
  | .fsel cs j, b, _, k => by simpa [RV] using k
  | .agg cs, b, hh, k => by
    simp only [XV.has] at hh
    simp only [RV] at k ⊢
    obtain ⟨bs, hb, hr⟩ := k
    exact ⟨bs, hb, RVL.set cs bs hh hr⟩
  | .tup cs, b, hh, k => by
    simp only [XV.has] at hh
    simp only [RV] at k ⊢
    obtain ⟨bs, hb, hr⟩ := k
    exact ⟨bs, hb, RVL.set cs bs hh hr⟩
  | .gd c key x, b, hh, k => by
    simp only [XV.has] at hh
    simp only [RV] at k ⊢
    exact ⟨fun hc => RV.set x b hh (k.1 hc), k.2⟩
  | .mref i, b, hh, k => by
    simp only [XV.has, beqN, decide_eq_false_iff_not] at hh
    simp only [RV] at k ⊢
    have e : (ρ.set id o) i = ρ i := by unfold Rho.set; rw [if_neg hh]
    rw [e]; exact k
  | .clo f i, b, hh, k => by
    simp only [XV.has, beqN, decide_eq_false_iff_not] at hh
    simp only [RV] at k ⊢
    have e : (ρ.set id o) i = ρ i := by unfold Rho.set; rw [if_neg hh]
    rw [e]; exact k
  | .top, b, _, _ => by simp [RV]
theorem RVL.set {ρ : Rho} {id : Nat} {o : Option Nat} : ∀ (cs : List XV) (bs : List AV), XV.has.hasL id cs = false → RVL ρ cs bs → RVL (ρ.set id o) cs bs
  | [], [], _, _ => by simp [RVL]
  | c :: cs, b :: bs, hh, k => by
    simp only [XV.has.hasL, Bool.or_eq_false_iff] at hh
    simp only [RVL] at k ⊢
    exact ⟨RV.set c b hh.1 k.1, RVL.set cs bs hh.2 k.2⟩
  | [], _ :: _, _, k => by simp [RVL] at k
  | _ :: _, [], _, k => by simp [RVL] at k
end
theorem look_drop (id : Nat) : ∀ (s : List (Nat × XV)) (i : Nat), look (dropS id s) i = bif (look s i).has id then .top else look s i
  | [], i => by simp [dropS, look, XV.has]
  | (d, v) :: s, i => by
    simp only [dropS]
    cases hv : v.has id with
    | true =>
      rw [cond_true, look_put, look_put, look_drop id s i]
      split
      · rw [hv]; rfl
      · rfl
    | false =>
      rw [cond_false, look_put, look_put, look_drop id s i]
      split
      · rw [hv]; rfl
      · rfl
theorem RV.drop {ρ : Rho} {id : Nat} {o : Option Nat} {x : XV} {b : AV} (k : RV ρ x b) : RV (ρ.set id o) (bif x.has id then .top else x) b := by
  cases h : x.has id with
  | true => simp [RV]
  | false => exact RV.set x b h k
theorem dropC_ok {ρ : Rho} {id : Nat} {o : Option Nat} : ∀ {cs : List XV} {bs : List AV}, RVL ρ cs bs → RVL (ρ.set id o) (dropC id cs) bs
  | [], [], _ => by simp [dropC, RVL]
  | c :: cs, b :: bs, k => by
    simp only [RVL] at k
    simp only [dropC, RVL]
    exact ⟨RV.drop k.1, dropC_ok k.2⟩
  | [], _ :: _, k => by simp [RVL] at k
  | _ :: _, [], k => by simp [RVL] at k
def dropRow (id : Nat) : XRow → XRow
  | .one e ap cs => .one e ap (dropC id cs)
  | .vec e ap n sz f => .vec e ap n sz f
  | .vecU e ap n sz i cs f => .vecU e ap n sz i cs f
  | .it s p => .it s p
  | .mp l => .mp l
theorem findR_drop (id : Nat) : ∀ (s : List (Nat × XRow)) (i : Nat), findR (dropH id s) i = (findR s i).map (dropRow id)
  | [], i => by simp [dropH, findR]
  | (d, .one e ap cs) :: s, i => by
    simp only [dropH]
    rw [findR_put, findR_put, findR_drop id s i]
    split <;> rfl
  | (d, .vec e ap n sz f) :: s, i => by
    simp only [dropH]
    rw [findR_put, findR_put, findR_drop id s i]
    split <;> rfl
  | (d, .vecU e ap n sz k cs f) :: s, i => by
    simp only [dropH]
    rw [findR_put, findR_put, findR_drop id s i]
    split <;> rfl
  | (d, .it b p) :: s, i => by
    simp only [dropH]
    rw [findR_put, findR_put, findR_drop id s i]
    split <;> rfl
  | (d, .mp l) :: s, i => by
    simp only [dropH]
    rw [findR_put, findR_put, findR_drop id s i]
    split <;> rfl
theorem RRow.drop {ρ : Rho} {id : Nat} {o : Option Nat} {r : XRow} {row : Row} (k : RRow ρ r row) : RRow (ρ.set id o) (dropRow id r) row := by
  cases r with
  | one e ap cs => simp only [RRow, dropRow] at k ⊢; exact ⟨k.1, k.2.1, dropC_ok k.2.2⟩
  | vec e ap n sz f => simpa [RRow, dropRow] using k
  | vecU e ap n sz i cs f => simpa [RRow, dropRow] using k
  | it s p => simpa [RRow, dropRow] using k
  | mp l => simpa [RRow, dropRow] using k
theorem set_mono {ρ : Rho} {id : Nat} {o : Option Nat} (h : ρ id = none) : ∀ i q, ρ i = some q → (ρ.set id o) i = some q := by
  intro i q hq
  unfold Rho.set
  rw [if_neg]
  · exact hq
  · rintro rfl; rw [h] at hq; cases hq
theorem set_same (ρ : Rho) (id : Nat) (o : Option Nat) : (ρ.set id o) id = some o := by simp [Rho.set]
theorem set_ne (ρ : Rho) {id i : Nat} (o : Option Nat) (h : i ≠ id) : (ρ.set id o) i = ρ i := by simp [Rho.set, h]
theorem pin_new {ρ ρ' : Rho} {h : List (Nat × XRow)} {n g : Nat} {r : XRow} (hm : ∀ i q, ρ i = some q → ρ' i = some q) (hp : ρ 0 = some (some g) ∧ 0 < n ∧ ∃ e ap cs, findR h 0 = some (.one e ap cs)) :
    ρ' 0 = some (some g) ∧ 0 < n + 1 ∧ ∃ e ap cs, findR ((n, r) :: h) 0 = some (.one e ap cs) := by
  obtain ⟨p1, p2, e, ap, cs, p3⟩ := hp
  refine ⟨hm _ _ p1, by omega, e, ap, cs, ?_⟩
  rw [findR_put, if_neg (by omega)]
  exact p3
/-- A new block. -/
theorem Rel.new {F : Fr} {ρ : Rho} {S : XS} {t : TM} {L : GH} (h : Rel F ρ S t L) {g : Nat} {r : XRow} {row : Row} (hg : L g = none) (hr : RRow (ρ.set S.nx (some g)) r row) :
    Rel F (ρ.set S.nx (some g)) { S with h := (S.nx, r) :: S.h, nx := S.nx + 1 } t (upd L g row) := by
  have hnx := h.nx S.nx (Nat.le_refl _)
  have hm := set_mono (o := some g) hnx
  have fresh : ∀ i, (findR S.h i).isSome = true → i ≠ S.nx ∧ ρ i ≠ some (some g) := by
    intro i hi
    cases hq : findR S.h i with
    | none => rw [hq] at hi; cases hi
    | some q =>
      rcases h.rw i q hq with ⟨g', row', h1, h2, _⟩ | ⟨h1, _⟩
      · refine ⟨by (rintro rfl; rw [hnx] at h1; cases h1), ?_⟩
        intro h3
        rw [h1] at h3
        obtain rfl := Option.some.inj (Option.some.inj h3)
        rw [hg] at h2; cases h2
      · exact ⟨by (rintro rfl; rw [hnx] at h1; cases h1), by rw [h1]; simp⟩
  refine ⟨fun i => RV.mono hm _ _ (h.sl i), fun i q hq => ?_, fun i j g' hi hj e1 e2 => ?_, fun i hi => ?_, fun b q hb => ?_, fun hp => pin_new hm (h.pin hp), RVL.mono hm _ _ h.gh⟩
  · simp only at hq
    rw [findR_put] at hq
    by_cases hi : i = S.nx
    · rw [if_pos hi] at hq
      obtain rfl := Option.some.inj hq
      subst hi
      exact .inl ⟨g, row, set_same _ _ _, upd_same _ _ _, hr⟩
    · rw [if_neg hi] at hq
      rcases h.rw i q hq with ⟨g', row', h1, h2, h3⟩ | ⟨h1, h2⟩
      · refine .inl ⟨g', row', hm _ _ h1, ?_, h3.mono hm⟩
        rw [upd_ne]
        · exact h2
        · rintro rfl; rw [hg] at h2; cases h2
      · exact .inr ⟨hm _ _ h1, h2⟩
  · simp only at hi hj
    rw [findR_put] at hi hj
    by_cases a1 : i = S.nx
    · by_cases a2 : j = S.nx
      · rw [a1, a2]
      · rw [if_neg a2] at hj
        rw [a1, set_same] at e1
        obtain rfl := Option.some.inj (Option.some.inj e1)
        rw [set_ne _ _ a2] at e2
        exact absurd e2 (fresh j hj).2
    · rw [if_neg a1] at hi
      rw [set_ne _ _ a1] at e1
      by_cases a2 : j = S.nx
      · rw [a2, set_same] at e2
        obtain rfl := Option.some.inj (Option.some.inj e2)
        exact absurd e1 (fresh i hi).2
      · rw [if_neg a2] at hj
        rw [set_ne _ _ a2] at e2
        exact h.inj i j g' hi hj e1 e2
  · simp only at hi
    rw [set_ne _ _ (by omega)]
    exact h.nx i (by omega)
  · obtain ⟨h1, h2⟩ := h.fr b q hb
    refine ⟨?_, fun i hi => ?_⟩
    · rw [upd_ne]
      · exact h1
      · rintro rfl; rw [hg] at h1; cases h1
    · simp only at hi
      rw [findR_put] at hi
      by_cases a1 : i = S.nx
      · rw [a1, set_same]
        intro h3
        obtain rfl := Option.some.inj (Option.some.inj h3)
        rw [hg] at h1; cases h1
      · rw [if_neg a1] at hi
        rw [set_ne _ _ a1]
        exact h2 i hi
/-- A block that is told anew: all that spoke of it is forgotten. -/
theorem Rel.renew {F : Fr} {ρ : Rho} {S : XS} {t : TM} {L0 : GH} {og og' : Option Nat} {id : Nat} {r0 : Row} {q0 r : XRow} {row : Row} (h : Rel F ρ S t (updo L0 og r0)) (hF : Fre L0 og) (hq : findR S.h id = some q0) (hid : ρ id = some og) (hF' : Fre L0 og') (hvec : ∀ e ap cs, q0 ≠ .one e ap cs)
    (hr : (∃ g, og' = some g ∧ RRow (ρ.set id og') r row) ∨ (og' = none ∧ ∃ e sz f, r = .vec e true 0 sz f)) :
    Rel F (ρ.set id og') { S with s := dropS id S.s, h := (id, r) :: dropH id (delR S.h id), gs := dropC id S.gs } t (updo L0 og' row) := by
  have hlt : id < S.nx := by
    rcases Nat.lt_or_ge id S.nx with hl | hl
    · exact hl
    · rw [h.nx id hl] at hid; cases hid
  have old : ∀ i g row', i ≠ id → (findR S.h i).isSome = true → ρ i = some (some g) → updo L0 og r0 g = some row' → L0 g = some row' := by
    intro i g row' hi hs e1 e2
    cases og with
    | none => exact e2
    | some g0 =>
      have hne : g ≠ g0 := by
        rintro rfl
        exact hi (h.inj i id _ hs (by rw [hq]; rfl) e1 hid)
      simpa [updo, upd_ne _ _ _ _ hne] using e2
  have new : ∀ g row', L0 g = some row' → updo L0 og' row g = some row' := by
    intro g row' e
    cases og' with
    | none => exact e
    | some g1 =>
      have hne : g ≠ g1 := by rintro rfl; rw [hF' g rfl] at e; cases e
      simpa [updo, upd_ne _ _ _ _ hne] using e
  have fi : ∀ i, findR ((id, r) :: dropH id (delR S.h id)) i = if i = id then some r else (findR S.h i).map (dropRow id) := by
    intro i
    rw [findR_put, findR_drop, findR_del]
    by_cases hi : i = id
    · rw [if_pos hi, if_pos hi]
    · rw [if_neg hi, if_neg hi, if_neg hi]
  have gone : ∀ i g, i ≠ id → (findR S.h i).isSome = true → ρ i = some (some g) → ∃ row', L0 g = some row' := by
    intro i g hi hs e1
    cases hq' : findR S.h i with
    | none => rw [hq'] at hs; cases hs
    | some q =>
      obtain ⟨row', h2, _⟩ := (h.rw i q hq').some_g e1
      exact ⟨row', old i g row' hi hs e1 h2⟩
  refine ⟨fun i => by show RV _ (look (dropS id S.s) i) _; rw [look_drop]; exact RV.drop (h.sl i), fun i q hq' => ?_, fun i j g' hi hj e1 e2 => ?_, fun i hi => ?_, fun b q hb => ?_, fun hp => ?_, dropC_ok h.gh⟩
  · simp only at hq'
    rw [fi] at hq'
    by_cases hi : i = id
    · rw [if_pos hi] at hq'
      obtain rfl := Option.some.inj hq'
      subst hi
      rcases hr with ⟨g, rfl, hr⟩ | ⟨rfl, hr⟩
      · exact .inl ⟨g, row, set_same _ _ _, upd_same _ _ _, hr⟩
      · exact .inr ⟨set_same _ _ _, hr⟩
    · rw [if_neg hi] at hq'
      cases hq2 : findR S.h i with
      | none => rw [hq2] at hq'; cases hq'
      | some p =>
        rw [hq2] at hq'
        obtain rfl := Option.some.inj hq'
        rcases h.rw i p hq2 with ⟨g', row', h1, h2, h3⟩ | ⟨h1, e, sz, f, rfl⟩
        · exact .inl ⟨g', row', by rw [set_ne _ _ hi]; exact h1, new _ _ (old i g' row' hi (by rw [hq2]; rfl) h1 h2), h3.drop⟩
        · exact .inr ⟨by rw [set_ne _ _ hi]; exact h1, e, sz, f, rfl⟩
  · simp only at hi hj
    rw [fi] at hi hj
    have ss : ∀ k, k ≠ id → ((if k = id then some r else (findR S.h k).map (dropRow id)) : Option XRow).isSome = true → (findR S.h k).isSome = true := by
      intro k hk hs
      rw [if_neg hk] at hs
      simpa using hs
    by_cases a1 : i = id
    · by_cases a2 : j = id
      · rw [a1, a2]
      · rw [a1, set_same] at e1
        rw [set_ne _ _ a2] at e2
        obtain ⟨row', h3⟩ := gone j g' a2 (ss j a2 hj) e2
        obtain rfl := Option.some.inj e1
        rw [hF' g' rfl] at h3; cases h3
    · by_cases a2 : j = id
      · rw [a2, set_same] at e2
        rw [set_ne _ _ a1] at e1
        obtain ⟨row', h3⟩ := gone i g' a1 (ss i a1 hi) e1
        obtain rfl := Option.some.inj e2
        rw [hF' g' rfl] at h3; cases h3
      · rw [set_ne _ _ a1] at e1
        rw [set_ne _ _ a2] at e2
        exact h.inj i j g' (ss i a1 hi) (ss j a2 hj) e1 e2
  · simp only at hi
    rw [set_ne _ _ (by omega)]
    exact h.nx i hi
  · obtain ⟨h1, h2⟩ := h.fr b q hb
    have h3 : L0 b = some q := by
      cases og with
      | none => exact h1
      | some g0 =>
        have hne : b ≠ g0 := by rintro rfl; exact h2 id (by rw [hq]; rfl) hid
        simpa [updo, upd_ne _ _ _ _ hne] using h1
    refine ⟨new _ _ h3, fun i hi => ?_⟩
    simp only at hi
    rw [fi] at hi
    by_cases a1 : i = id
    · rw [a1, set_same]
      intro h4
      obtain rfl := Option.some.inj h4
      rw [hF' b rfl] at h3; cases h3
    · rw [if_neg a1] at hi
      rw [set_ne _ _ a1]
      exact h2 i (by simpa using hi)
  · obtain ⟨p1, p2, e, ap, cs, p3⟩ := h.pin hp
    have hne : 0 ≠ id := by
      rintro rfl
      rw [hq] at p3
      exact hvec e ap cs (Option.some.inj p3)
    refine ⟨by rw [set_ne _ _ hne]; exact p1, p2, e, ap, dropC id cs, ?_⟩
    show findR ((id, r) :: dropH id (delR S.h id)) 0 = _
    rw [fi, if_neg hne, p3]
    rfl
end Go.Proofs.YthomfpdigmeheaaDoorAv
set_option linter.unusedVariables false
set_option linter.unusedSimpArgs false
namespace Go.Proofs.YthomfpdigmeheaaDoorAv
open Go Go.RowKit
/-- A slot's value is a nil slice that is told as one's own. -/
theorem Rel.newN {F : Fr} {ρ : Rho} {S : XS} {t : TM} {L : GH} (h : Rel F ρ S t L) (e : TypeId) (sz : Nat) (f : Nat → List XV) :
    Rel F (ρ.set S.nx none) { S with h := (S.nx, .vec e true 0 sz f) :: S.h, nx := S.nx + 1 } t L := by
  have hnx := h.nx S.nx (Nat.le_refl _)
  have hm := set_mono (o := none) hnx
  refine ⟨fun i => RV.mono hm _ _ (h.sl i), fun i q hq => ?_, fun i j g' hi hj e1 e2 => ?_, fun i hi => ?_, fun b q hb => ?_, fun hp => pin_new hm (h.pin hp), RVL.mono hm _ _ h.gh⟩
  · simp only at hq
    rw [findR_put] at hq
    by_cases hi : i = S.nx
    · rw [if_pos hi] at hq
      obtain rfl := Option.some.inj hq
      subst hi
      exact .inr ⟨set_same _ _ _, e, sz, f, rfl⟩
    · rw [if_neg hi] at hq
      rcases h.rw i q hq with ⟨g', row', h1, h2, h3⟩ | ⟨h1, h2⟩
      · exact .inl ⟨g', row', hm _ _ h1, h2, h3.mono hm⟩
      · exact .inr ⟨hm _ _ h1, h2⟩
  · simp only at hi hj
    rw [findR_put] at hi hj
    have ni : i ≠ S.nx := by rintro rfl; rw [set_same] at e1; cases e1
    have nj : j ≠ S.nx := by rintro rfl; rw [set_same] at e2; cases e2
    rw [if_neg ni] at hi
    rw [if_neg nj] at hj
    rw [set_ne _ _ ni] at e1
    rw [set_ne _ _ nj] at e2
    exact h.inj i j g' hi hj e1 e2
  · simp only at hi
    rw [set_ne _ _ (by omega)]
    exact h.nx i (by omega)
  · obtain ⟨h1, h2⟩ := h.fr b q hb
    refine ⟨h1, fun i hi => ?_⟩
    simp only at hi
    rw [findR_put] at hi
    by_cases a1 : i = S.nx
    · rw [a1, set_same]; simp
    · rw [if_neg a1] at hi
      rw [set_ne _ _ a1]
      exact h2 i hi
theorem eqZ1_eq {a b : Value} (h : eqZ1 a b = true) : a = b := by
  unfold eqZ1 at h
  split at h
  · simp only [Bool.and_eq_true] at h
    obtain ⟨h1, h2⟩ := h
    rw [kb_eq h1]
    split at h2
    · rw [beqN, decide_eq_true_eq] at h2
      rw [h2]
    · cases h2
  · rw [beq_iff_eq] at h; rw [h]
  · rfl
  · rfl
  · cases h
theorem eqZ_eq : ∀ {l k : List Value}, eqZ l k = true → l = k
  | [], [], _ => rfl
  | a :: l, b :: k, h => by
    simp only [eqZ, Bool.and_eq_true] at h
    rw [eqZ1_eq h.1, eqZ_eq h.2]
  | [], _ :: _, h => by simp [eqZ] at h
  | _ :: _, [], h => by simp [eqZ] at h
theorem rep_vec {sz : Nat} {l : List Value} (hl : l.length = sz) : ∀ n, (repV n l).map AV.p = vecOf n sz fun _ => toAVL (l.map fun v => XV.v (.p v))
  | 0 => by simp [repV, vecOf]
  | n + 1 => by
    have e1 : toAVL (l.map fun v => XV.v (.p v)) = l.map AV.p := by
      rw [toAVL_map, List.map_map]; rfl
    have h1 : vecOf 1 sz (fun _ => toAVL (l.map fun v => XV.v (.p v))) = l.map AV.p := by
      rw [vecOf_one (g := fun _ => toAVL (l.map fun v => XV.v (.p v))) (by rw [e1]; simpa using hl), e1]
    rw [repV, List.map_append, rep_vec hl n, ← h1, vecOf_app, Nat.add_comm]
    apply vecOf_congr
    intro j hj
    cases Nat.blt j 1 <;> rfl
section
variable {P : Program} {N : Nat} {ops : Array Oper} {Q : Exit → TM → GH → Prop} {d : Option Nat} {ty : TypeId} {pos : String} {af : Array Edge} {op : Op} {ρ : Rho} {F : Fr} {S S' : XS} {t : TM} {L : GH} {v : XV} {os : List Oper}
theorem gxs_av : ∀ vs : List GV, toAVL (gxs vs) = vs.map GV.av
  | [] => rfl
  | .val v :: l => by simp only [gxs, toAVL, toAV, List.map_cons, GV.av, gxs_av l]
  | .int k :: l => by simp only [gxs, toAVL, toAV, List.map_cons, GV.av, gxs_av l]
  | .ifc :: l => by simp only [gxs, toAVL, toAV, List.map_cons, GV.av, gxs_av l]
theorem xev_ok (hR : Rel F ρ S t L) (x : Operand) : RV ρ (xev S.s x) (ev t x) := by
  cases x with
  | tmp n => exact hR.sl n
  | const v => simp [xev, RV, ev]
  | global g =>
    show RV ρ (match gfind glbT g with | some vs => .fp (gxs vs) | none => .top) (match gfind glbT g with | some vs => .fp (vs.map GV.av) | none => .top)
    cases gfind glbT g with
    | none => simp [RV]
    | some vs => simp only [RV]; exact ⟨[], by rw [gxs_av, List.append_nil]⟩
  | func f => simp [xev, RV, ev]
theorem st_none {G : List (Nat × Bool)} {y : XV} {b : AV} (h : RV ρ y b) (hc : ∀ p ∈ (y.st G none).1, p) : RV ρ (y.st G none).2 b := by
  cases y with
  | gd c k x =>
    simp only [RV] at h
    simp only [XV.st, sameK] at hc ⊢
    exact h.1 (all1 hc)
  | _ => exact h
theorem bytes_vec (b : ByteArray) : bytesAV b = vecOf b.size 1 fun j => toAVL [.v (.p (.int .u8 (sbyte b j)))] := by
  apply List.ext_getElem?
  intro c
  have hl : (bytesAV b).length = b.size := by
    have e : b.data.toList.length = b.size := by rw [Array.length_toList]; rfl
    simp only [bytesAV, List.length_map]
    exact e
  rcases Nat.lt_or_ge c b.size with h | h
  · have := vecOf_get (n := b.size) (sz := 1) (g := fun j => toAVL [.v (.p (.int .u8 (sbyte b j)))]) (i := c) (o := 0) h (by omega)
    rw [Nat.mul_one, Nat.add_zero] at this
    rw [this]
    simp only [bytesAV, List.getElem?_map]
    have hd : c < b.data.toList.length := by rw [Array.length_toList]; exact h
    rw [List.getElem?_eq_getElem hd]
    simp only [Option.map_some, toAVL, toAV, byteAV, sbyte, Int.toNat_natCast]
    rw [List.getD_eq_getElem?_getD, List.getD_eq_getElem?_getD, List.getElem?_eq_getElem hd]
    rfl
  · rw [List.getElem?_eq_none (by omega), List.getElem?_eq_none (by rw [vecOf_length]; omega)]
theorem JO.retell0 {L L' : GH} (hd : ∀ b, L b = none → L' b = none)
    (hv : ∀ w, (∀ g r, L g = some r → RowR L w g r) → ∀ g r, L' g = some r → RowR L' w g r) (h : JO P N ops Q os t L') : JO P N ops Q os t L := by
  intro L0 w0 a w he hs
  have hx := Ext.drop w hd
  exact h L0 w0 a w (he.trans hx) ⟨fun i => VS.ext hx _ _ (hs.tm i), hv w hs.rows, hs.size, hs.df.1, hs.df.2.ext hx⟩
theorem vecOf_take {n n' sz : Nat} {g : Nat → List AV} (h : n ≤ n') : vecOf n sz g = (vecOf n' sz g).take (n * sz) := by
  unfold vecOf
  rw [← List.map_take, List.take_range, Nat.min_eq_left (Nat.mul_le_mul_right _ h)]
/-- Of a slice of one's own, fewer elements are told. -/
theorem JO.shorter {L0 : GH} {og : Option Nat} {e : TypeId} {cs cs' : List AV} {k : Nat} (hF : Fre L0 og) (hk : cs' = cs.take k) (h : JO P N ops Q os t (updo L0 og ⟨e, true, cs'⟩)) : JO P N ops Q os t (updo L0 og ⟨e, true, cs⟩) := by
  subst hk
  refine JO.retell0 (fun b hb => ?_) (fun w hr => ?_) h
  · cases og with
    | none => exact hb
    | some g =>
      obtain ⟨h1, h2⟩ := updo_none hb
      show upd L0 g _ b = none
      rw [upd_ne _ _ _ _ (h1 g rfl)]
      exact h2
  · intro g r hg
    have hx : Ext (updo L0 og ⟨e, true, cs⟩) w (updo L0 og ⟨e, true, cs.take k⟩) w := Ext.drop w fun b hb => by
      cases og with
      | none => exact hb
      | some g =>
        obtain ⟨h1, h2⟩ := updo_none hb
        show upd L0 g _ b = none
        rw [upd_ne _ _ _ _ (h1 g rfl)]
        exact h2
    cases og with
    | none => exact hr g r hg
    | some g0 =>
      have hg' : upd L0 g0 ⟨e, true, cs.take k⟩ g = some r := hg
      by_cases hgg : g = g0
      · subst hgg
        rw [upd_same] at hg'
        obtain rfl := Option.some.inj hg'
        obtain ⟨c, fr, vs, q1, q2, q3, q4, q5, q6, q7⟩ := hr g ⟨e, true, cs⟩ (by show upd L0 g _ g = _; rw [upd_same])
        refine ⟨c, fr, vs.take k, q1, q2, q3, ?_, ?_, VSL.ext hx _ _ (VSL.take k q6), fun v hv => q7 v (List.mem_of_mem_take hv)⟩
        · have q4 : cs.length ≤ c.size := q4
          show (cs.take k).length ≤ c.size
          rw [List.length_take]; omega
        · have q5 : vs = c.toList.take cs.length := q5
          show vs.take k = c.toList.take (cs.take k).length
          rw [q5, List.take_take, List.length_take]
      · rw [upd_ne _ _ _ _ hgg] at hg'
        exact (hr g r (by show upd L0 g0 _ g = some r; rw [upd_ne _ _ _ _ hgg]; exact hg')).ext hx rfl
theorem xnew0_ok {X : Cx} (hX : X.ok P) {cs : List Prop} (hn : xnew0 X S op = some (cs, v, S')) (hc : ∀ p ∈ cs, p) (hR : Rel F ρ S t L) (hd : dok N d = true)
    (K : ∀ ρ' t' L', Rel F ρ' (S'.put d v) t' L' → JO P N ops Q os t' L') : JO P N ops Q (⟨d, op, ty, pos, af, none⟩ :: os) t L := by
  cases op with
  | alloc T =>
    simp only [xnew0] at hn
    split at hn
    · rename_i u z z1 z2 hu hi
      split at hn
      · rename_i h3
        simp only [Option.some.injEq, Prod.mk.injEq] at hn
        obtain ⟨rfl, rfl, rfl⟩ := hn
        refine R.alloc (okI_fnd hX.I hi) rfl (RVL.ones h3 (zcells_ok ρ z)) hd fun g hg => ?_
        refine K (ρ.set S.nx (some g)) _ _ (Rel.put (Rel.new hR hg ?_) d ?_)
        · simp only [RRow]; exact ⟨trivial, trivial, zcells_ok _ z⟩
        · simp only [RV]; exact ⟨g, set_same _ _ _, by simp⟩
      · cases hn
    · cases hn
  | box T x =>
    simp only [xnew0] at hn
    split at hn
    · rename_i h1
      simp only [Option.some.injEq, Prod.mk.injEq] at hn
      obtain ⟨rfl, rfl, rfl⟩ := hn
      obtain ⟨k1, k2⟩ := RV.cells h1 (st_none (xev_ok hR x) hc)
      refine JO.box rfl k2 hd fun g hg => ?_
      refine K (ρ.set S.nx (some g)) _ _ (Rel.put (Rel.new hR hg ?_) d ?_)
      · simp only [RRow]; exact ⟨trivial, trivial, RVL.mono (set_mono (hR.nx _ (Nat.le_refl _))) _ _ k1⟩
      · simp only [RV]; exact ⟨g, set_same _ _ _, by simp⟩
    · cases hn
  | makeSlice T x y =>
    simp only [xnew0] at hn
    split at hn
    · rename_i k l k' c e hx hy ht
      split at hn
      · rename_i z sz b hi
        split at hn
        · rename_i s' h2 h1
          simp only [Option.some.injEq, Prod.mk.injEq] at hn
          obtain ⟨rfl, rfl, rfl⟩ := hn
          have v1 := st_none (xev_ok hR x) (allL hc)
          have v2 := st_none (xev_ok hR y) (allL (allR hc))
          rw [hx] at v1
          rw [hy] at v2
          simp only [RV] at v1 v2
          have hcs := allR (allR hc)
          have c1 : 0 ≤ l := hcs _ (by simp)
          have c2 : l ≤ c := hcs _ (by simp)
          have c3 : c.toNat * b ≤ 140737488355328 := hcs _ (by simp)
          have c4 : c ≤ 140737488355328 := hcs _ (by simp)
          rw [beqN, decide_eq_true_eq] at h1
          have hrep : ∀ n, repl n z.cells.toList = repV n z.cells.toList := by
            intro n
            induction n with
            | zero => rfl
            | succ n ih => rw [repl, repV, ih]
          refine JO.makeSlice (okU_fnd hX.U ht) (okI_fnd hX.I hi) (by simpa using h1) v1 v2 c1 c2 c3 c4 (by omega) (RVL.ones h2 (zcells_ok ρ z)) hd fun g hg => ?_
          refine K (ρ.set S.nx (some g)) _ _ (Rel.put (Rel.new hR hg ?_) d ?_)
          · simp only [RRow]; rw [hrep, rep_vec h1]; rfl
          · simp only [RV]; exact .inl ⟨g, set_same _ _ _, by simp⟩
        · cases hn
      · cases hn
    · cases hn
  | convert Sx T x =>
    simp only [xnew0] at hn
    split at hn
    · rename_i e b hs ht hx
      split at hn
      · rename_i he
        simp only [Option.some.injEq, Prod.mk.injEq] at hn
        obtain ⟨rfl, rfl, rfl⟩ := hn
        have h1 := st_none (xev_ok hR x) hc
        rw [hx] at h1
        simp only [RV] at h1
        refine JO.toBytes (okU_fnd hX.U hs) (okU_fnd hX.U ht) (okU_fnd hX.U he) h1 hd fun g hg => ?_
        refine K (ρ.set S.nx (some g)) _ _ (Rel.put (Rel.new hR hg ?_) d ?_)
        · simp only [RRow]; rw [bytes_vec]
        · simp only [RV]; exact .inl ⟨g, set_same _ _ _, by simp⟩
      · cases hn
    · cases hn
  | call c =>
    obtain ⟨ce, ar, at'⟩ := c
    cases ce with
    | value y0 =>
      cases y0 with
      | func f =>
        simp only [xnew0] at hn
        split at hn
        · rename_i T M hM
          split at hn
          · rename_i cs' cells hm
            split at hn
            · rename_i h1
              simp only [Option.some.injEq, Prod.mk.injEq] at hn
              obtain ⟨rfl, rfl, rfl⟩ := hn
              obtain ⟨⟨fn, co, f1, f2, f3⟩, f4⟩ := hX.N f T M hM
              have hargs := xargs_ok ρ (ev t) ar.toList (fun x _ hc => st_none (xev_ok hR x) hc) (allL hc)
              obtain ⟨ds, k1, k2⟩ := f4 _ _ _ hm (allR hc) ρ _ hargs
              have := JO.call (P := P) (N := N) (ops := ops) (Q := Q) (d := d) (ty := ty) (pos := pos) (af := af) (os := os) (t := t) (L := L) (xs := ar.toList) (tys := at') f1 f2 f3 hd (k2 L) (by
                rintro r L' ⟨g, hg, rfl, rfl⟩
                refine K (ρ.set S.nx (some g)) _ _ (Rel.put (Rel.new hR hg ?_) d ?_)
                · simp only [RRow]; exact ⟨trivial, trivial, RVL.mono (set_mono (hR.nx _ (Nat.le_refl _))) _ _ k1⟩
                · simp only [RV]; exact ⟨g, set_same _ _ _, by simp⟩)
              simpa using this
            · cases hn
          · cases hn
        · cases hn
      | _ => simp [xnew0] at hn
    | invoke a b => simp [xnew0] at hn
    | builtin bi =>
    simp only [xnew0] at hn
    split at hn
    · rename_i x y T T' hcc hca hct
      injection hcc with hcc
      subst hcc
      have h1 : ar = #[x, y] := by rw [← Array.toArray_toList (xs := ar), hca]
      have h2 : at' = #[T, T'] := by rw [← Array.toArray_toList (xs := at'), hct]
      subst h1 h2
      split at hn
      · rename_i e hTT hu
        rw [beqN, decide_eq_true_eq] at hTT
        subst hTT
        split at hn
        · rename_i z sz b hi
          obtain ⟨ti, k1, k2, k3, k4⟩ := (okI_fnd hX.I hi).get
          split at hn
          · rename_i m g s' hsr hzl
            rw [beqN, decide_eq_true_eq] at hzl
            have hzz : z.cells.size = s' + 1 := by simpa using hzl
            have e2 : ∀ {l1 l2 : List Prop}, cs = l1 ++ (((xev S.s y).st [] none).1 ++ l2) → RV ρ ((xev S.s y).st [] none).2 (ev t y) := fun h => st_none (xev_ok hR y) (by rw [h] at hc; exact allL (allR hc))
            split at hn
            · rename_i hx
              simp only [Option.some.injEq, Prod.mk.injEq] at hn
              obtain ⟨rfl, rfl, rfl⟩ := hn
              have e1 := st_none (xev_ok hR x) (allL hc)
              have hb1 : m * b ≤ 140737488355328 := all1 (allR (allR hc))
              have hb2 : m ≤ 140737488355328 := all2 (allR (allR hc))
              rw [hx] at e1
              simp only [RV] at e1
              refine JO.append' (L0 := L) (og := none) (cs := []) (n := 0) (m := m) (ys := vecOf m (s' + 1) fun i => toAVL (g i)) (okU_fnd hX.U hu) k1 k2 k3 hzz (fun g h => by cases h) e1 (fun _ => ⟨rfl, rfl⟩) (by simp) (xsrc_ok hsr (e2 rfl) _) (vecOf_length _ _ _) (by rw [Nat.zero_add, k4]; exact hb1) (by omega) (Nat.succ_pos _) hd fun og' hF hnil => ?_
              rw [List.nil_append, Nat.zero_add]
              cases og' with
              | some g' =>
                refine K (ρ.set S.nx (some g')) _ _ (Rel.put (Rel.new hR (hF g' rfl) ?_) d ?_)
                · simp only [RRow]
                · simp only [RV]; exact .inl ⟨g', set_same _ _ _, by simp [hv]⟩
              | none =>
                have hm0 : m = 0 := by have := (hnil rfl).2; omega
                subst hm0
                refine K (ρ.set S.nx none) _ _ (Rel.put (Rel.newN hR e (s' + 1) g) d ?_)
                simp only [RV]
                exact .inr ⟨set_same _ _ _, trivial, trivial, rfl⟩
            · rename_i id s n hx
              split at hn
              · rename_i e' n' s2 f hq
                split at hn
                · rename_i q1 q2 q3
                  simp only [zipBif_eq, Option.some.injEq, Prod.mk.injEq] at hn
                  obtain ⟨rfl, rfl, rfl⟩ := hn
                  rw [beqN, decide_eq_true_eq] at q1 q2 q3
                  subst q1 q2 q3
                  have e1 := st_none (xev_ok hR x) (allL hc)
                  have hc3 := allR (allR hc)
                  have hnn : n ≤ n' := by
                    have := all1 hc3
                    split at this
                    · exact this
                    · exact Nat.le_of_eq this.symm
                  have hb1 : (n + m) * b ≤ 140737488355328 := all2 hc3
                  have hb2 : n + m ≤ 140737488355328 := all3 hc3
                  rw [hx] at e1
                  simp only [RV] at e1
                  have go : ∀ (L0 : GH) (og : Option Nat), L = updo L0 og ⟨e, true, vecOf n' (s' + 1) fun i => toAVL (f i)⟩ → Fre L0 og → ρ id = some og → ev t x = hv og (s' + 1) n → (og = none → n = 0) →
                      JO P N ops Q (⟨d, .call { callee := .builtin .append, args := #[x, y], argTypes := #[T, T] }, ty, pos, af, none⟩ :: os) t L := by
                    intro L0 og hL hF hid hxe hnil
                    subst hL
                    refine JO.shorter hF (vecOf_take hnn) ?_
                    refine JO.append' (L0 := L0) (og := og) (cs := vecOf n (s' + 1) fun i => toAVL (f i)) (n := n) (m := m) (ys := vecOf m (s' + 1) fun i => toAVL (g i)) (okU_fnd hX.U hu) k1 k2 k3 hzz hF hxe (fun h => ⟨by rw [hnil h]; simp [vecOf], hnil h⟩) (vecOf_length _ _ _) (xsrc_ok hsr (e2 rfl) _) (vecOf_length _ _ _)
                      (by rw [k4]; exact hb1) hb2 (Nat.succ_pos _) hd fun og' hF' hnil' => ?_
                    have hR2 := Rel.renew (r := .vec e true (n + m) (s' + 1) fun j => bif Nat.blt j n then f j else g (j - n)) (row := ⟨e, true, (vecOf n (s' + 1) fun i => toAVL (f i)) ++ vecOf m (s' + 1) fun i => toAVL (g i)⟩) hR hF hq hid hF' (by intro e ap cs h; cases h) (by
                      cases og' with
                      | some g' =>
                        refine .inl ⟨g', rfl, ?_⟩
                        simp only [RRow]
                        rw [vecOf_app]
                        congr 1
                        apply vecOf_congr
                        intro j _
                        cases Nat.blt j n <;> rfl
                      | none =>
                        have : n + m = 0 := (hnil' rfl).2
                        exact .inr ⟨rfl, e, s' + 1, _, by rw [this]⟩)
                    refine K _ _ _ (Rel.put hR2 d ?_)
                    simp only [RV]
                    cases og' with
                    | some g' => exact .inl ⟨g', set_same _ _ _, by simp [hv]⟩
                    | none => exact .inr ⟨set_same _ _ _, (hnil' rfl).2, trivial, rfl⟩
                  rcases e1 with ⟨g0, hid, hxe⟩ | ⟨hid, hn0, -, hxe⟩
                  · obtain ⟨row, hL, hrow⟩ := (hR.rw id _ hq).some_g hid
                    simp only [RRow] at hrow
                    subst hrow
                    refine go (del L g0) (some g0) ?_ (fun g' h => by obtain rfl := Option.some.inj h; simp [del]) hid (by rw [hxe]; simp [hv]) (fun h => by cases h)
                    funext b'
                    simp only [updo, upd, del]
                    split
                    · rename_i hb'; rw [hb', hL]
                    · rfl
                  · exact go L none rfl (fun g' h => by cases h) hid (by rw [hxe]; rfl) (fun _ => hn0)
                · cases hn
              · cases hn
            · rename_i n s f hx
              split at hn
              · rename_i q1
                simp only [zipBif_eq, Option.some.injEq, Prod.mk.injEq] at hn
                obtain ⟨rfl, rfl, rfl⟩ := hn
                rw [beqN, decide_eq_true_eq] at q1
                subst q1
                have e1 := st_none (xev_ok hR x) (allL hc)
                have hb1 : (n + m) * b ≤ 140737488355328 := all1 (allR (allR hc))
                have hb2 : n + m ≤ 140737488355328 := all2 (allR (allR hc))
                rw [hx] at e1
                simp only [RV] at e1
                refine JO.appendC (L := L) (n := n) (m := m) (cs := vecOf n (s' + 1) fun i => toAVL (f i)) (ys := vecOf m (s' + 1) fun i => toAVL (g i)) (okU_fnd hX.U hu) k1 k2 k3 hzz e1 (vecOf_length _ _ _) (xsrc_ok hsr (e2 rfl) _) (vecOf_length _ _ _) (by rw [k4]; exact hb1) hb2 (Nat.succ_pos _) hd ?_
                refine K ρ _ _ (Rel.put hR d ?_)
                simp only [RV, toAV]
                rw [vecOf_app]
                congr 1
                apply vecOf_congr
                intro j _
                cases Nat.blt j n <;> rfl
              · cases hn
            · cases hn
          · cases hn
        · cases hn
      · cases hn
    · cases hn
  | _ => simp [xnew0] at hn
theorem xnew_ok {X : Cx} (hX : X.ok P) {cs : List Prop} (hn : xnew X S op = some (cs, v, S')) (hc : ∀ p ∈ cs, p) (hR : Rel F ρ S t L) (hd : dok N d = true)
    (K : ∀ ρ' t' L', Rel F ρ' (S'.put d v) t' L' → JO P N ops Q os t' L') : JO P N ops Q (⟨d, op, ty, pos, af, none⟩ :: os) t L := xnew0_ok hX hn hc hR.pl hd K
end
end Go.Proofs.YthomfpdigmeheaaDoorAv
set_option linter.unusedVariables false
set_option linter.unusedSimpArgs false
namespace Go.Proofs.YthomfpdigmeheaaDoorAv
open Go Go.RowKit
theorem xdok_eq {N : Nat} {d : Option Nat} (h : xdok N d = true) : dok N d = true := by
  cases d with
  | none => rfl
  | some d => simp only [xdok, bltN, decide_eq_true_eq] at h; simpa [dok] using h
/-- What is known of tests by their keys. -/
def GI (ops : List Oper) (s : List (Nat × XV)) (G : List (Nat × Bool)) : Prop :=
  ∀ k g, fnd G k = some g → (∃ j b, k = gkey j b ∧ guardOf ops s j b = some g) ∧ ∀ i c x, look s i = .gd c (some k) x → c = g
theorem GI.nil (ops : List Oper) (s : List (Nat × XV)) : GI ops s [] := fun k g h => by simp [fnd] at h
theorem guardOf_put {ops : List Oper} {s : List (Nat × XV)} {d : Nat} {v : XV} {j : Nat} {b : Bool} (h : ∀ o, nth ops j = some o → o.dst ≠ some d) : guardOf ops ((d, v) :: s) j b = guardOf ops s j b := by
  unfold guardOf
  cases hn : nth ops j with
  | none => rfl
  | some o =>
    obtain ⟨od, op, ty, pos, af, gd⟩ := o
    cases od with
    | none => rfl
    | some d' =>
      simp only
      rw [look_put, if_neg]
      rintro rfl
      exact h _ hn rfl
theorem gkey_div (j : Nat) (b : Bool) : gkey j b / 2 = j := by
  cases b <;> simp [gkey] <;> omega
theorem gkey_inj {j j' : Nat} {b b' : Bool} (h : gkey j b = gkey j' b') : j = j' ∧ b = b' := by
  have e := gkey_div j b
  rw [h, gkey_div] at e
  subst e
  refine ⟨rfl, ?_⟩
  cases b <;> cases b' <;> simp [gkey] at h <;> rfl
theorem dropG_fnd {ops : List Oper} {d : Nat} : ∀ {G : List (Nat × Bool)} {k : Nat} {g : Bool}, fnd (dropG ops d G) k = some g → fnd G k = some g ∨ (∃ g', fnd G k = some g' ∧ False) ∨ (k, g) ∈ G
  | G, k, g, h => by
    have := fnd_mem _ _ _ h
    refine .inr (.inr ?_)
    clear h
    induction G with
    | nil => simp [dropG] at this
    | cons q G ih =>
      obtain ⟨k', g'⟩ := q
      simp only [dropG] at this
      split at this
      · cases hb : Nat.beq d _ with
        | true => rw [hb, cond_true] at this; exact List.mem_cons_of_mem _ (ih this)
        | false =>
          rw [hb, cond_false] at this
          rcases List.mem_cons.1 this with h | h
          · rw [h]; simp
          · exact List.mem_cons_of_mem _ (ih h)
      · exact List.mem_cons_of_mem _ (ih this)
/-- All that is listed of tests. -/
def GA (ops : List Oper) (s : List (Nat × XV)) (G : List (Nat × Bool)) : Prop :=
  ∀ k g, (k, g) ∈ G → (∃ j b, k = gkey j b ∧ guardOf ops s j b = some g) ∧ ∀ i c x, look s i = .gd c (some k) x → c = g
theorem GA.fnd {ops : List Oper} {s : List (Nat × XV)} {G : List (Nat × Bool)} (h : GA ops s G) {k : Nat} {g : Bool} (hf : YthomfpdigmeheaaDoorAv.fnd G k = some g) : (∃ j b, k = gkey j b ∧ guardOf ops s j b = some g) ∧ ∀ i c x, look s i = .gd c (some k) x → c = g := h k g (fnd_mem _ _ _ hf)
theorem GA.nil (ops : List Oper) (s : List (Nat × XV)) : GA ops s [] := fun k g h => by cases h
theorem dropG_mem {ops : List Oper} {d : Nat} : ∀ {G : List (Nat × Bool)} {k : Nat} {g : Bool}, (k, g) ∈ dropG ops d G → (k, g) ∈ G ∧ ∃ o, nth ops (k / 2) = some o ∧ o.dst ≠ some d
  | [], k, g, h => by simp [dropG] at h
  | (k', g') :: G, k, g, h => by
    simp only [dropG] at h
    split at h
    · rename_i d' o1 o2 o3 o4 o5 hn
      rw [beqN] at h
      by_cases hd : d = d'
      · rw [decide_eq_true hd, cond_true] at h
        obtain ⟨h1, h2⟩ := dropG_mem h
        exact ⟨List.mem_cons_of_mem _ h1, h2⟩
      · rw [decide_eq_false hd, cond_false] at h
        rcases List.mem_cons.1 h with h | h
        · simp only [Prod.mk.injEq] at h
          obtain ⟨rfl, rfl⟩ := h
          exact ⟨by simp, _, hn, fun e => hd (Option.some.inj e).symm⟩
        · obtain ⟨h1, h2⟩ := dropG_mem h
          exact ⟨List.mem_cons_of_mem _ h1, h2⟩
    · obtain ⟨h1, h2⟩ := dropG_mem h
      exact ⟨List.mem_cons_of_mem _ h1, h2⟩
/-- A value put into a slot. -/
theorem GA.put {ops : List Oper} {s : List (Nat × XV)} {G : List (Nat × Bool)} (h : GA ops s G) {d : Nat} {v : XV} (hv : ∀ c k x, v = .gd c (some k) x → ∀ g, (k, g) ∈ G → c = g) : GA ops ((d, v) :: s) (dropG ops d G) := by
  intro k g hk
  obtain ⟨h1, o, h2, h3⟩ := dropG_mem hk
  obtain ⟨⟨j, b, rfl, e2⟩, e3⟩ := h k g h1
  rw [gkey_div] at h2
  refine ⟨⟨j, b, rfl, ?_⟩, fun i c x hl => ?_⟩
  · rw [guardOf_put]
    · exact e2
    · intro o' ho'
      rw [h2] at ho'
      obtain rfl := Option.some.inj ho'
      exact h3
  · rw [look_put] at hl
    split at hl
    · exact hv c _ x hl g h1
    · exact e3 i c x hl
theorem noKey_ok {k : Nat} : ∀ {s : List (Nat × XV)}, noKey k s = true → ∀ i c x, look s i ≠ .gd c (some k) x
  | [], _, i, c, x, h => by simp [look] at h
  | (d, v) :: s, hk, i, c, x, h => by
    rw [look_put] at h
    have hs : noKey k s = true := by
      unfold noKey at hk
      split at hk
      · rename_i heq; cases heq
      · rename_i heq; injection heq with h1 h2; subst h2; simp only [Bool.and_eq_true] at hk; exact hk.2
      · rename_i heq; injection heq with h1 h2; subst h2; exact hk
    split at h
    · subst h
      simp [noKey, beqN] at hk
    · exact noKey_ok hs i c x h
section
variable {P : Program} {N : Nat} {ops : Array Oper} {Q : Exit → TM → GH → Prop} {d : Option Nat} {ty : TypeId} {pos : String} {af : Array Edge} {op : Op} {ρ : Rho} {F : Fr} {S S' : XS} {t : TM} {L : GH} {v : XV} {os : List Oper}
/-- A value as an operation under a test sees it. -/
theorem st_ok {o : List Oper} {s : List (Nat × XV)} {G : List (Nat × Bool)} {key : Option Nat} {i : Nat} {b : AV} (hG : GA o s G) (hr : RV ρ (look s i) b) (hk : ∀ k g, key = some k → fnd G k = some g → g = true) (hc : ∀ p ∈ ((look s i).st G key).1, p) :
    RV ρ ((look s i).st G key).2 b := by
  cases hl : look s i with
  | gd c k x =>
    rw [hl] at hr hc
    simp only [RV] at hr
    simp only [XV.st] at hc ⊢
    cases hs : sameK G key k with
    | true =>
      simp only
      refine hr.1 ?_
      unfold sameK at hs
      split at hs
      · rename_i k1 k2
        split at hs
        · rename_i q hb hf
          rw [beqN, decide_eq_true_eq] at hb
          subst hb
          rw [(hG.fnd hf).2 i c x hl]
          exact hk _ _ rfl hf
        · cases hs
      · cases hs
    | false =>
      rw [hs] at hc
      exact hr.1 (all1 hc)
  | _ => rw [hl] at hr hc; exact hr
theorem st_okO {o : List Oper} {G : List (Nat × Bool)} {key : Option Nat} {x : Operand} (hR : Rel F ρ S t L) (hG : GA o S.s G) (hk : ∀ k g, key = some k → fnd G k = some g → g = true) (hc : ∀ p ∈ ((xev S.s x).st G key).1, p) : RV ρ ((xev S.s x).st G key).2 (ev t x) := by
  cases x with
  | tmp n => exact st_ok hG (hR.sl n) hk hc
  | const v => simp [xev, XV.st, RV, ev]
  | global g =>
    have := xev_ok hR (.global g)
    have hn : ∀ c k x, xev S.s (.global g) ≠ .gd c k x := by
      intro c k x h
      simp only [xev] at h
      split at h <;> cases h
    cases hx : xev S.s (.global g) with
    | gd c k x => exact absurd hx (hn c k x)
    | _ => rw [hx] at this; exact this
  | func f => simp [xev, XV.st, RV, ev]
theorem whose_ok {s : Nat} : ∀ {l : List Oper} {j0 j : Nat}, whose s l j0 = some j → ∃ o, nth l (j - j0) = some o ∧ o.dst = some s ∧ j0 ≤ j
  | [], j0, j, h => by simp [whose] at h
  | o :: l, j0, j, h => by
    obtain ⟨od, op, ty, pos, af, gd⟩ := o
    have step : whose s l (j0 + 1) = some j → ∃ o', nth (⟨od, op, ty, pos, af, gd⟩ :: l) (j - j0) = some o' ∧ o'.dst = some s ∧ j0 ≤ j := by
      intro h
      obtain ⟨o', h1, h2, h3⟩ := whose_ok h
      refine ⟨o', ?_, h2, by omega⟩
      rw [show j - j0 = (j - (j0 + 1)) + 1 by omega]
      exact h1
    cases od with
    | none => simp only [whose] at h; exact step h
    | some d =>
      simp only [whose, beqN] at h
      by_cases hd : d = s
      · rw [decide_eq_true hd, cond_true] at h
        obtain rfl := Option.some.inj h
        subst hd
        exact ⟨⟨some d, op, ty, pos, af, gd⟩, by simp [nth], rfl, Nat.le_refl _⟩
      · rw [decide_eq_false hd, cond_false] at h
        exact step h
theorem pick_ok {G : List (Nat × Bool)} {key : Option Nat} (hR : Rel F ρ S t L) (hG : GA ops.toList S.s G) (hk : ∀ k g, key = some k → fnd G k = some g → g = true) (c a b : Operand) (hop : op = .pick c a b) (tb : Bool) (hc : ∀ p ∈ ((xev S.s c).st G key).1, p)
    (hv : ((xev S.s c).st G key).2 = .v (.p (.bool tb))) :
    (tb = true → (∀ p ∈ ((xev S.s a).st G (pickKey ops.toList true op)).1, p) → RV ρ ((xev S.s a).st G (pickKey ops.toList true op)).2 (ev t a)) ∧
    (tb = false → (∀ p ∈ ((xev S.s b).st G (pickKey ops.toList false op)).1, p) → RV ρ ((xev S.s b).st G (pickKey ops.toList false op)).2 (ev t b)) := by
  have key2 : ∀ (bb : Bool), (bif bb then tb else !tb) = true → ∀ k g, pickKey ops.toList bb op = some k → fnd G k = some g → g = true := by
    intro bb hbb k g hp hf
    subst hop
    unfold pickKey at hp
    split at hp
    · rename_i s a1 a2 heq
      injection heq with h1 h2 h3
      subst h1 h2 h3
      split at hp
      · rename_i j hw
        obtain rfl := Option.some.inj hp
        obtain ⟨o, ho, hd, _⟩ := whose_ok hw
        rw [Nat.sub_zero] at ho
        obtain ⟨⟨j', b', hkk, hgo⟩, _⟩ := hG.fnd hf
        obtain ⟨rfl, rfl⟩ := gkey_inj hkk
        obtain ⟨od, oop, oty, opos, oaf, ogd⟩ := o
        simp only at hd
        subst hd
        simp only [guardOf, ho] at hgo
        simp only [xev] at hv hc
        cases hl : look S.s s with
        | v av =>
          rw [hl] at hv hgo
          simp only [XV.st] at hv
          injection hv with hv
          subst hv
          simp only [Option.some.injEq] at hgo
          rw [← hgo]; exact hbb
        | gd c0 k0 x0 =>
          rw [hl] at hv hgo hc
          have hx0 : x0 = .v (.p (.bool tb)) := by
            simp only [XV.st] at hv
            split at hv <;> exact hv
          subst hx0
          simp only [Option.some.injEq] at hgo
          have hc0 : c0 = true := by
            simp only [XV.st] at hc
            cases hs : sameK G key k0 with
            | false => rw [hs] at hc; exact all1 hc
            | true =>
              unfold sameK at hs
              split at hs
              · rename_i k1 k2
                split at hs
                · rename_i q hb hf2
                  rw [beqN, decide_eq_true_eq] at hb
                  subst hb
                  rw [(hG.fnd hf2).2 s c0 _ hl]
                  exact hk _ _ rfl hf2
                · cases hs
              · cases hs
          rw [← hgo, hc0, Bool.true_and]
          exact hbb
        | _ => rw [hl] at hgo; cases hgo
      · cases hp
    · cases hp
  exact ⟨fun h => st_okO hR hG (key2 true (by simpa using h)), fun h => st_okO hR hG (key2 false (by simpa using h))⟩
/-- Where a slot lies beyond the frame, nothing but what is not there lies in it. -/
theorem JO.outside {s : Nat} {c : Bool} (hs : ¬ s < N) (ht : t s = .p (.bool c)) : JO P N ops Q os t L := by
  intro L0 w0 a w he sm
  have hv := sm.tm s
  rw [ht] at hv
  simp only [VS] at hv
  have : a.tmps.getD s undef = undef := by
    rw [Array.getD_eq_getD_getElem?, Array.getElem?_eq_none (by rw [sm.size]; exact Nat.le_of_not_lt hs)]
    rfl
  rw [this] at hv
  simp [undef] at hv
theorem nth_bind {j s : Nat} {o : Oper} (hn : nth ops.toList j = some o) (hd : o.dst = some s) : (ops[j]?).bind (·.dst) = some s := by
  rw [nth_eq] at hn
  have : ops[j]? = some o := by simpa using hn
  rw [this]; exact hd
/-- An operation under a test. -/
theorem guard_ok {j : Nat} {b g : Bool} {d : Nat} (hR : ∀ o s, nth ops.toList j = some o → o.dst = some s → RV ρ (look S.s s) (t s)) (hg : guardOf ops.toList S.s j b = some g) (hd : dok N (some d) = true)
    (h1 : g = true → JO P N ops Q (⟨some d, op, ty, pos, af, none⟩ :: os) t L) (h2 : g = false → JO P N ops Q os (t.put d (.p undef)) L) : JO P N ops Q (⟨some d, op, ty, pos, af, some (j, b)⟩ :: os) t L := by
  have hdN : d < N := dok_lt hd d rfl
  unfold guardOf at hg
  split at hg
  · rename_i s o1 o2 o3 o4 o5 hn
    have hj := nth_bind hn rfl
    have hsl := hR _ s hn rfl
    by_cases hs : s < N
    · split at hg
      · rename_i c hl
        rw [hl] at hsl
        simp only [RV] at hsl
        obtain rfl := Option.some.inj hg
        cases b <;> cases c
        · exact JO.on hs hj hsl rfl (h1 rfl)
        · exact JO.off hdN hs hj hsl rfl (h2 rfl)
        · exact JO.off hdN hs hj hsl rfl (h2 rfl)
        · exact JO.on hs hj hsl rfl (h1 rfl)
      · rename_i c0 k c hl
        rw [hl] at hsl
        simp only [RV] at hsl
        obtain rfl := Option.some.inj hg
        cases c0 with
        | false => exact JO.offU hdN hs hj (hsl.2 rfl) (h2 rfl)
        | true =>
          have := hsl.1 rfl
          cases b <;> cases c
          · exact JO.on hs hj this rfl (h1 rfl)
          · exact JO.off hdN hs hj this rfl (h2 rfl)
          · exact JO.off hdN hs hj this rfl (h2 rfl)
          · exact JO.on hs hj this rfl (h1 rfl)
      · cases hg
    · -- beyond the frame
      split at hg
      · rename_i c hl
        rw [hl] at hsl
        simp only [RV] at hsl
        exact JO.outside hs hsl
      · rename_i c0 k c hl
        rw [hl] at hsl
        simp only [RV] at hsl
        obtain rfl := Option.some.inj hg
        cases c0 with
        | true => exact JO.outside hs (hsl.1 rfl)
        | false =>
          refine fun L0 w0 a w he sm => ?_
          have hv := sm.tm s
          have hw : Region.wanted ⟨some d, op, ty, pos, af, some (j, b)⟩ (yielded ops a.tmps) = false := by
            have hno : a.tmps[s]? = none := Array.getElem?_eq_none (by rw [sm.size]; exact Nat.le_of_not_lt hs)
            simp [Region.wanted, yielded, hj, hno]
          unfold wpList
          rw [if_neg (by rw [hw]; simp)]
          exact h2 rfl L0 w0 _ w he (sm.put d hdN (by simp [VS]))
      · cases hg
  · cases hg
theorem xguard_ok {G G' : List (Nat × Bool)} {j : Nat} {b g : Bool} {k : Option Nat} (hG : GA ops.toList S.s G) (h : xguard ops.toList S G j b = some (g, k, G')) :
    guardOf ops.toList S.s j b = some g ∧ GA ops.toList S.s G' ∧ ∀ k', k = some k' → ∀ g', (k', g') ∈ G' → g' = g := by
  have fin : guardOf ops.toList S.s j b = some g → GA ops.toList S.s G' → (k = some (gkey j b) ∨ k = none) → guardOf ops.toList S.s j b = some g ∧ GA ops.toList S.s G' ∧ ∀ k', k = some k' → ∀ g', (k', g') ∈ G' → g' = g := by
    intro e1 e2 hk
    refine ⟨e1, e2, fun k' h1 g' h2 => ?_⟩
    rcases hk with rfl | rfl
    · obtain rfl := Option.some.inj h1
      obtain ⟨⟨j', b', e3, e4⟩, _⟩ := e2 _ _ h2
      obtain ⟨rfl, rfl⟩ := gkey_inj e3
      rw [e1] at e4
      exact (Option.some.inj e4).symm
    · cases h1
  unfold xguard at h
  split at h
  · rename_i g0 hf
    simp only [Option.some.injEq, Prod.mk.injEq] at h
    obtain ⟨rfl, rfl, rfl⟩ := h
    obtain ⟨⟨j', b', e3, e4⟩, _⟩ := hG.fnd hf
    obtain ⟨rfl, rfl⟩ := gkey_inj e3
    exact fin e4 hG (.inl rfl)
  · split at h
    · rename_i g0 hgo
      split at h
      · rename_i hnk
        simp only [Option.some.injEq, Prod.mk.injEq] at h
        obtain ⟨rfl, rfl, rfl⟩ := h
        refine fin hgo ?_ (.inl rfl)
        intro k g hk
        rcases List.mem_cons.1 hk with hk | hk
        · simp only [Prod.mk.injEq] at hk
          obtain ⟨rfl, rfl⟩ := hk
          exact ⟨⟨j, b, rfl, hgo⟩, fun i c x hl => absurd hl (noKey_ok hnk i c x)⟩
        · exact hG k g hk
      · simp only [Option.some.injEq, Prod.mk.injEq] at h
        obtain ⟨rfl, rfl, rfl⟩ := h
        exact fin hgo hG (.inr rfl)
    · cases h
theorem RRow.rows {rows : Nat → Row} {h : List (Nat × XRow)} (hrw : ∀ id r, findR h id = some r → RR ρ L id r) (hrows : ∀ id g, ρ id = some (some g) → (findR h id).isSome = true → L g = some (rows id)) :
    ∀ id r, findR h id = some r → ∀ g, ρ id = some (some g) → RRow ρ r (rows id) := by
  intro id r hf g hg
  obtain ⟨row, h1, h2⟩ := (hrw id r hf).some_g hg
  rw [hrows id g hg (by rw [hf]; rfl)] at h1
  obtain rfl := Option.some.inj h1
  exact h2
def rowsOf (ρ : Rho) (L : GH) : Nat → Row := fun id => match ρ id with
  | some (some g) => (L g).getD ⟨0, false, []⟩
  | _ => ⟨0, false, []⟩
theorem rowsOf_ok (hR : Rel F ρ S t L) : ∀ id g, ρ id = some (some g) → (findR S.h id).isSome = true → L g = some (rowsOf ρ L id) := by
  intro id g hg hs
  cases hf : findR S.h id with
  | none => rw [hf] at hs; cases hs
  | some r =>
    obtain ⟨row, h1, _⟩ := (hR.rw id r hf).some_g hg
    simp [rowsOf, hg, h1]
theorem xop_wr {X : Cx} {h : List (Nat × XRow)} {e eT eF : Operand → List Prop × XV} {cs : List Prop} {id : Nat} {r : XRow} (hb : xop X h e eT eF op = some (cs, v, some (id, r))) : (findR h id).isSome = true ∧ id ∈ touchX e op ∧ ∀ e ap cs, findR h id = some (.one e ap cs) → ∃ e' ap' cs', r = .one e' ap' cs' := by
  cases op with
  | store T x y =>
    simp only [xop] at hb
    split at hb
    · split at hb
      · split at hb
        · rename_i cs' u hx
          simp only [Option.some.injEq, Prod.mk.injEq] at hb
          obtain ⟨-, -, rfl⟩ := hb
          unfold xstore at hx
          simp only [xforce_eq] at hx
          split at hx
          · rename_i id' sz i o heq
            split at hx
            · rename_i hf
              split at hx
              · simp only [Option.some.injEq, Prod.mk.injEq] at hx
                obtain ⟨-, rfl, rfl⟩ := hx
                exact ⟨by rw [hf]; rfl, by simp [touchX, heq, ptrId], fun _ _ _ _ => ⟨_, _, _, rfl⟩⟩
              · split at hx
                · simp only [Option.some.injEq, Prod.mk.injEq] at hx
                  obtain ⟨-, rfl, rfl⟩ := hx
                  exact ⟨by rw [hf]; rfl, by simp [touchX, heq, ptrId], fun _ _ _ _ => ⟨_, _, _, rfl⟩⟩
                · cases hx
              · cases hx
            · rename_i hf
              split at hx
              · simp only [Option.some.injEq, Prod.mk.injEq] at hx
                obtain ⟨-, rfl, -⟩ := hx
                exact ⟨by rw [hf]; rfl, by simp [touchX, heq, ptrId], fun _ _ _ h => by rw [hf] at h; cases h⟩
              · cases hx
            · rename_i hf
              split at hx
              · simp only [Option.some.injEq, Prod.mk.injEq] at hx
                obtain ⟨-, rfl, -⟩ := hx
                exact ⟨by rw [hf]; rfl, by simp [touchX, heq, ptrId], fun _ _ _ h => by rw [hf] at h; cases h⟩
              · cases hx
            · cases hx
            · cases hx
            · cases hx
          · cases hx
        · cases hb
      · cases hb
    · cases hb
  | pick c a b =>
    simp only [xop] at hb
    split at hb
    · split at hb <;> simp at hb
    · cases hb
  | slice T x lo hi mx =>
    cases mx with
    | some mm =>
      cases lo with
      | some _ => simp [xop] at hb
      | none =>
        cases hi with
        | none => simp [xop] at hb
        | some hh =>
          simp only [xop] at hb
          split at hb
          · split at hb <;> simp at hb
          · cases hb
    | none =>
      simp only [xop] at hb
      split at hb
      · simp at hb
      · split at hb <;> simp at hb
  | call c =>
    simp only [xop] at hb
    split at hb
    · split at hb
      · split at hb <;> simp at hb
      · cases hb
    · split at hb
      · split at hb <;> simp at hb
      · cases hb
    · split at hb <;> simp at hb
    · split at hb <;> simp at hb
    · split at hb
      · split at hb <;> simp at hb
      · split at hb
        · rename_i H id' rest hH ha
          split at hb
          · rename_i el ap cells hf
            split at hb
            · simp at hb
            · simp only [Option.some.injEq, Prod.mk.injEq] at hb
              obtain ⟨-, -, rfl, rfl⟩ := hb
              refine ⟨by rw [hf]; rfl, ?_, fun _ _ _ _ => ⟨_, _, _, rfl⟩⟩
              simp only [touchX]
              cases hl : c.args.toList with
              | nil => rw [hl] at ha; cases ha
              | cons x0 xs =>
                rw [hl] at ha
                simp only [xargs, List.cons.injEq] at ha
                cases xs <;> simp [ha.1, ptrId]
            · cases hb
          · cases hb
        · cases hb
    · cases hb
  | _ => first | (simp [xop] at hb; done) | (simp only [xop] at hb; (repeat' split at hb) <;> simp at hb)
theorem store_wr {X : Cx} {h : List (Nat × XRow)} {e eT eF : Operand → List Prop × XV} {cs : List Prop} {w : Option (Nat × XRow)} {T : TypeId} {x y : Operand} (hb : xop X h e eT eF (.store T x y) = some (cs, v, w)) : w ≠ none := by
  simp only [xop] at hb
  split at hb
  · split at hb
    · split at hb
      · simp only [Option.some.injEq, Prod.mk.injEq] at hb
        obtain ⟨-, -, rfl⟩ := hb
        simp
      · cases hb
    · cases hb
  · cases hb
theorem Rel.step {w : Option (Nat × XRow)} {W : Option (Nat × Row)} {v' : AV} (hR : Rel F ρ S t L) (d : Option Nat) (hv : RV ρ v v') (hw : WRel ρ w W) (hid : ∀ id r, w = some (id, r) → (findR S.h id).isSome = true ∧ ∀ e ap cs, findR S.h id = some (.one e ap cs) → ∃ e' ap' cs', r = .one e' ap' cs') : Rel F ρ ((S.put d v).wr w) (t.putO d v') (appW L W) := by
  have h1 := hR.put d hv
  cases w with
  | none =>
    cases W with
    | none => exact h1
    | some W => exact hw.elim
  | some w =>
    cases W with
    | none => obtain ⟨a, b⟩ := w; exact hw.elim
    | some W =>
      obtain ⟨id, r⟩ := w
      obtain ⟨g, row⟩ := W
      obtain ⟨k1, k2⟩ := hw
      have hs : (findR (S.put d v).h id).isSome = true ∧ ∀ e ap cs, findR (S.put d v).h id = some (.one e ap cs) → ∃ e' ap' cs', r = .one e' ap' cs' := by
        have := hid id r rfl
        cases d <;> exact this
      exact h1.wr hs.1 k1 k2 hs.2
theorem wr_s (S : XS) (w : Option (Nat × XRow)) : (S.wr w).s = S.s := by cases w <;> rfl
theorem put_s (S : XS) (d : Option Nat) (v : XV) : (S.put d v).s = (match d with | some d => (d, v) :: S.s | none => S.s) := by cases d <;> rfl
theorem st_gd {G : List (Nat × Bool)} {key : Option Nat} {y : XV} : ∀ c k x, (y.st G key).2 = .gd c k x → ∃ c', ∃ k', y = .gd c' k' (.gd c k x) := by
  intro c k x h
  cases y with
  | gd c' k' x' =>
    simp only [XV.st] at h
    split at h <;> exact ⟨c', k', by rw [← h]⟩
  | _ => cases h
theorem gs_in {s : List (Nat × XV)} {t : TM} {ρ : Rho} (h : ∀ i, RV ρ (look s i) (t i)) {gs : List XV} {tg : List AV} (hg : RVL ρ gs tg) : ∀ l : List (Nat × XV), RVL ρ (gsApp (gsIn s l) gs) (l.map (fun p => t p.1) ++ tg)
  | [] => hg
  | (d, v) :: l => by
    simp only [gsIn, gsApp, List.map_cons, List.cons_append, RVL]
    exact ⟨h d, gs_in h hg l⟩
theorem gs_out {t : TM} {ρ : Rho} {tg : List AV} : ∀ (l : List (Nat × XV)) (vs : List XV), RVL ρ vs (l.map (fun p => t p.1) ++ tg) → (∀ i, RV ρ (look (gsOut l vs) i) (t i)) ∧ RVL ρ (gsRest l vs) tg
  | [], vs, h => ⟨fun i => by simp [gsOut, look, RV], by simpa [gsRest] using h⟩
  | (d, u) :: l, [], h => by simp [RVL] at h
  | (d, u) :: l, v :: vs, h => by
    simp only [List.map_cons, List.cons_append, RVL] at h
    obtain ⟨h1, h2⟩ := gs_out l vs h.2
    refine ⟨fun i => ?_, h2⟩
    simp only [gsOut]
    rw [look_put]
    split
    · rename_i hi; rw [hi]; exact h.1
    · exact h1 i
/-- A call that may change what is told of memory. -/
theorem xcallL_ok {X : Cx} (hX : X.ok P) {K : XV → XS → Prop} (h : xcallL X S K op) (hR : Rel F ρ S t L) (hd : dok N d = true)
    (hK : ∀ v ρ' S' t' L', K v S' → Rel F ρ' (S'.put d v) t' L' → JO P N ops Q os t' L') : JO P N ops Q (⟨d, op, ty, pos, af, none⟩ :: os) t L := by
  unfold xcallL at h
  split at h
  · rename_i f ar at'
    split at h
    · rename_i T hT
      obtain ⟨hc, h⟩ := andK_all _ _ h
      obtain ⟨⟨fn, co, h1, h2, h3⟩, h4⟩ := hX.L f T hT
      have hargs := xargs_ok ρ (ev t) ar.toList (fun x _ hc => st_none (xev_ok hR x) hc) hc
      have hR1 : Rel ⟨F.F, F.g, (S.s.map fun p => t p.1) ++ F.tg⟩ ρ S.into t L := ⟨fun i => by simp [XS.into, look, RV], hR.rw, hR.inj, hR.nx, hR.fr, hR.pin, gs_in hR.sl hR.gh S.s⟩
      have hj := h4 _ _ _ h _ ρ t L _ hR1 hargs
      have := JO.call (P := P) (N := N) (ops := ops) (Q := Q) (ty := ty) (pos := pos) (af := af) (os := os) (t := t) (L := L) (d := d) (xs := ar.toList) (tys := at') h1 h2 h3 hd hj fun v L' ⟨ρ', S', t', xv, k1, k2, k3⟩ => by
        obtain ⟨g1, g2⟩ := gs_out (t := t) (tg := F.tg) S.s S'.gs k1.gh
        have hR2 : Rel F ρ' (S.back S') t L' := ⟨g1, k1.rw, k1.inj, k1.nx, k1.fr, k1.pin, g2⟩
        exact hK xv ρ' (S.back S') _ L' k3 (hR2.put d k2)
      simpa using this
    · exact h.elim
  · rename_i k ar at'
    split at h
    · rename_i f hf
      split at h
      · rename_i C hC
        dsimp only at h
        split at h
        · rename_i cs v hv
          obtain ⟨hc1, h⟩ := andK_all _ _ h
          obtain ⟨hc2, h⟩ := andK_all _ _ h
          obtain ⟨⟨fn, co, h1, h2, h3⟩, h4⟩ := hX.C f C hC
          have hargs := xargs_ok ρ (ev t) ar.toList (fun x _ hc => st_none (xev_ok hR x) hc) hc1
          obtain ⟨v', hv', hj⟩ := h4 _ _ _ hv hc2 ρ _ hargs
          have hl := hR.sl k
          rw [fnO_eq hf] at hl
          simp only [RV] at hl
          have := JO.callF (P := P) (N := N) (ops := ops) (Q := Q) (ty := ty) (pos := pos) (af := af) (os := os) (t := t) (L := L) (d := d) (o := .tmp k) (xs := ar.toList) (tys := at') h1 h2 h3 hl hd (hj L) fun w L' ⟨e1, e2⟩ => by
            subst e1 e2
            exact hK v ρ S _ _ h (hR.put d hv')
          simpa using this
        · exact h.elim
      · exact h.elim
    · split at h
      · rename_i f id hl0
        split at h
        · rename_i T hT
          obtain ⟨hc, h⟩ := andK_all _ _ h
          obtain ⟨⟨fn, co, h1, h2, h3⟩, h4⟩ := hX.L f T hT
          have hl := hR.sl k
          rw [hl0] at hl
          simp only [RV] at hl
          obtain ⟨g, hg, hl⟩ := hl
          have hargs := xargs_ok ρ (ev t) ar.toList (fun x _ hc => st_none (xev_ok hR x) hc) hc
          have hargs2 : RVL ρ (xapp (xargs (fun x => (xev S.s x).st [] none) ar.toList).2 [.ptr id 0 0 0]) (ar.toList.map (ev t) ++ [.ptr g 0]) := by
            rw [xapp_eq]
            refine RVL.append hargs ?_
            simp only [RVL, RV]
            exact ⟨⟨g, hg, by simp⟩, trivial⟩
          have hR1 : Rel ⟨F.F, F.g, (S.s.map fun p => t p.1) ++ F.tg⟩ ρ S.into t L := ⟨fun i => by simp [XS.into, look, RV], hR.rw, hR.inj, hR.nx, hR.fr, hR.pin, gs_in hR.sl hR.gh S.s⟩
          have hj := h4 _ _ _ h _ ρ t L _ hR1 hargs2
          have := JO.callC (P := P) (N := N) (ops := ops) (Q := Q) (ty := ty) (pos := pos) (af := af) (os := os) (t := t) (L := L) (d := d) (o := .tmp k) (xs := ar.toList) (tys := at') h1 h2 h3 hl hd hj fun v L' ⟨ρ', S', t', xv, k1, k2, k3⟩ => by
            obtain ⟨g1, g2⟩ := gs_out (t := t) (tg := F.tg) S.s S'.gs k1.gh
            have hR2 : Rel F ρ' (S.back S') t L' := ⟨g1, k1.rw, k1.inj, k1.nx, k1.fr, k1.pin, g2⟩
            exact hK xv ρ' (S.back S') _ L' k3 (hR2.put d k2)
          simpa using this
        · exact h.elim
      · exact h.elim
  · rename_i f x
    split at h
    · rename_i cs id hx
      obtain ⟨hc, h⟩ := andK_all _ _ h
      have hv := st_none (xev_ok hR x) (by rw [hx]; exact hc)
      rw [hx] at hv
      simp only [RV] at hv
      obtain ⟨g, hg, hv⟩ := hv
      refine JO.mkC (g := g) (by simpa using hv) hd (hK _ ρ S _ _ h (hR.put d ?_))
      simp only [RV]
      exact ⟨g, hg, rfl⟩
    · exact h.elim
  · rename_i T
    refine JO.makeMap hd fun g hg => hK _ _ _ _ _ h ((Rel.new hR hg (r := .mp []) (row := ⟨0, .mp [], []⟩) (by simp [RRow])).put d ?_)
    simp only [RV]
    exact ⟨g, set_same _ _ _, rfl⟩
  · rename_i T x y
    split at h
    case h_2 => exact h.elim
    rename_i kt et cs id cs' ky hU hx hy
    split at h
    case h_2 => exact h.elim
    rename_i D z sz bz l k hD hI hf hk
    split at h
    case h_2 => exact h.elim
    rename_i hty
    have go : (∀ p ∈ cs, p) → (∀ p ∈ cs', p) → (∀ p ∈ l, p.1.ty D = true) → ∀ xv, RV ρ xv (.p ((mfind k l).getD z)) → K xv S → JO P N ops Q (⟨d, .lookup T x y false, ty, pos, af, none⟩ :: os) t L := by
      intro hc1 hc2 hl xv hxv hKK
      have hv := st_none (xev_ok hR x) (by rw [hx]; exact hc1)
      have hw := st_none (xev_ok hR y) (by rw [hy]; exact hc2)
      rw [hx] at hv
      rw [hy, keyX_eq hk] at hw
      simp only [RV] at hv hw
      obtain ⟨g, hg, hv⟩ := hv
      obtain ⟨row, hL, hrow⟩ := (hR.rw id _ hf).some_g hg
      simp only [RRow] at hrow
      subst hrow
      exact JO.lookup (okU_fnd hX.U hU) (okU_fnd hX.U hD) (okI_fnd hX.I hI) hv hw hL hty hl hd (hK _ ρ S _ _ hKK (hR.put d hxv))
    split at h
    · obtain ⟨hc1, h⟩ := andK_all _ _ h
      obtain ⟨hc2, h⟩ := andK_all _ _ h
      obtain ⟨h3, h4⟩ := h
      exact go hc1 hc2 (fun p hp => (h3 p hp).1) _ (by simp only [RV]; rw [mgB_ok h3]) h4
    · obtain ⟨hc1, h⟩ := andK_all _ _ h
      obtain ⟨hc2, h⟩ := andK_all _ _ h
      obtain ⟨rfl, h3, h4⟩ := h
      exact go hc1 hc2 (fun p hp => (h3 p hp).1) _ (by simp only [RV]; rw [mgI_ok h3]) h4
    · exact h.elim
  · rename_i T x y v
    split at h
    case h_2 => exact h.elim
    rename_i kt et cs id cs' ky cs2 z hU hx hy hz
    split at h
    case h_2 => exact h.elim
    rename_i D l k hD hf hk
    split at h
    case h_2 => exact h.elim
    rename_i hty
    obtain ⟨hc1, h⟩ := andK_all _ _ h
    obtain ⟨hc2, h⟩ := andK_all _ _ h
    obtain ⟨hc3, h⟩ := andK_all _ _ h
    obtain ⟨h3, h4⟩ := h
    have hv := st_none (xev_ok hR x) (by rw [hx]; exact hc1)
    have hw := st_none (xev_ok hR y) (by rw [hy]; exact hc2)
    have hu := st_none (xev_ok hR v) (by rw [hz]; exact hc3)
    rw [hx] at hv
    rw [hy, keyX_eq hk] at hw
    rw [hz] at hu
    simp only [RV] at hv hw hu
    obtain ⟨g, hg, hv⟩ := hv
    obtain ⟨row, hL, hrow⟩ := (hR.rw id _ hf).some_g hg
    simp only [RRow] at hrow
    subst hrow
    refine JO.mapPut (okU_fnd hX.U hU) (okU_fnd hX.U hD) hv hw hu hL hty h3 hd (hK _ ρ _ _ _ h4 (Rel.put (Rel.wr hR (by rw [hf]; rfl) hg (r := .mp (mput l k z)) (by simp [RRow]) (fun e ap cs h1 => by rw [hf] at h1; cases h1)) d ?_))
    simp [RV]
  · rename_i T x
    split at h
    · rename_i cs b hU hx
      obtain ⟨hc, h⟩ := andK_all _ _ h
      have hv := st_none (xev_ok hR x) (by rw [hx]; exact hc)
      rw [hx] at hv
      simp only [RV] at hv
      refine JO.range (okU_fnd hX.U hU) hv hd fun g hg => hK _ _ _ _ _ h ((Rel.new hR hg (r := .it b 0) (row := ⟨0, .it b 0, []⟩) (by simp [RRow])).put d ?_)
      simp only [RV]
      exact ⟨g, set_same _ _ _, by simp⟩
    · exact h.elim
  · rename_i x
    split at h
    · rename_i cs id hx
      split at h
      · rename_i b p hf
        obtain ⟨hc, h⟩ := andK_all _ _ h
        have hv := st_none (xev_ok hR x) (by rw [hx]; exact hc)
        rw [hx] at hv
        simp only [RV] at hv
        obtain ⟨g, hg, hv⟩ := hv
        obtain ⟨row, hL, hrow⟩ := (hR.rw id _ hf).some_g hg
        simp only [RRow] at hrow
        subst hrow
        refine JO.next (by simpa using hv) hL hd (fun hp => hK _ ρ _ _ _ (h.1 hp) (Rel.put (Rel.wr hR (by rw [hf]; rfl) hg (r := .it b (p + (Utf8.decode b p).2)) (by simp [RRow]) (fun e ap cs h1 => by rw [hf] at h1; cases h1)) d ?_)) (fun hp => hK _ ρ S _ _ (h.2 hp) (hR.put d ?_))
        · simp [RV, RVL]
        · simp [RV, RVL]
      · exact h.elim
    · exact h.elim
  · exact h.elim
theorem JO.retell {t t' : TM} {L L' : GH} (hd : ∀ b, L b = none → L' b = none)
    (hv : ∀ w, (∀ g r, L g = some r → RowR L w g r) → (∀ g r, L' g = some r → RowR L' w g r) ∧ ∀ i x, VS L w (t i) x → VS L' w (t' i) x) (h : JO P N ops Q os t' L') : JO P N ops Q os t L := by
  intro L0 w0 a w he hs
  have hx := Ext.drop w hd
  obtain ⟨h1, h2⟩ := hv w hs.rows
  exact h L0 w0 a w (he.trans hx) ⟨fun i => h2 i _ (hs.tm i), h1, hs.size, hs.df.1, hs.df.2.ext hx⟩
/-- A slice of one's own that is only read from now on. -/
theorem xfrzO_ok {d : Nat} {cs : List Prop} (h : xfrz S d = some (cs, S')) (hc : ∀ p ∈ cs, p) (hR : Rel F ρ S t L) (K : ∀ ρ' t' L', Rel F ρ' S' t' L' → JO P N ops Q os t' L') : JO P N ops Q os t L := by
  unfold xfrz at h
  split at h
  · rename_i id sz n hl
    split at h
    · rename_i e n' sz' f hq
      split at h
      · rename_i hs
        rw [beqN, decide_eq_true_eq] at hs
        subst hs
        simp only [Option.some.injEq, Prod.mk.injEq] at h
        obtain ⟨rfl, rfl⟩ := h
        have hn : n = n' := all1 hc
        subst hn
        have hsl := hR.sl d
        rw [hl] at hsl
        simp only [RV] at hsl
        have hlt : ∀ o, ρ id = some o → id < S.nx := by
          intro o ho
          rcases Nat.lt_or_ge id S.nx with h | h
          · exact h
          · rw [hR.nx id h] at ho; cases ho
        have go : ∀ (L0 : GH) (og : Option Nat) (row : Row), L = updo L0 og row → row.cs = vecOf n sz (fun i => toAVL (f i)) → Fre L0 og → ρ id = some og → t d = hv og sz n → (og = none → row.cs = [] ∧ n = 0) → JO P N ops Q os t L := by
          intro L0 og row hL hcs hF hid ht hnil
          subst hL
          refine JO.freeze d hF ht hnil (by rw [hcs, vecOf_length]) ?_
          rw [hcs]
          -- what is left is told of no block that is this one
          have fi : ∀ i, findR (dropH id (delR S.h id)) i = if i = id then none else (findR S.h i).map (dropRow id) := by
            intro i
            rw [findR_drop, findR_del]
            by_cases hi : i = id
            · rw [if_pos hi, if_pos hi]; rfl
            · rw [if_neg hi, if_neg hi]
          have old : ∀ i g row', i ≠ id → (findR S.h i).isSome = true → ρ i = some (some g) → updo L0 og row g = some row' → L0 g = some row' := by
            intro i g row' hi hs e1 e2
            cases og with
            | none => exact e2
            | some g0 =>
              have hne : g ≠ g0 := by
                rintro rfl
                exact hi (hR.inj i id _ hs (by rw [hq]; rfl) e1 hid)
              simpa [updo, upd_ne _ _ _ _ hne] using e2
          refine K (ρ.set id none) _ _ ⟨fun i => ?_, fun i q hf => ?_, fun i j g hi hj e1 e2 => ?_, fun i hi => ?_, fun b q hb => ?_, fun hp => ?_, dropC_ok hR.gh⟩
          · show RV _ (look ((d, .fz n sz f) :: dropS id S.s) i) _
            rw [look_put]
            by_cases hi : i = d
            · rw [if_pos hi, hi, TM.put_same]
              simp only [RV, toAV]
            · rw [if_neg hi, TM.put_ne _ _ _ _ hi, look_drop]
              exact RV.drop (hR.sl i)
          · simp only at hf
            rw [fi] at hf
            by_cases hi : i = id
            · rw [if_pos hi] at hf; cases hf
            · rw [if_neg hi] at hf
              cases hf2 : findR S.h i with
              | none => rw [hf2] at hf; cases hf
              | some p =>
                rw [hf2] at hf
                obtain rfl := Option.some.inj hf
                rcases hR.rw i p hf2 with ⟨g', row', h1, h2, h3⟩ | ⟨h1, e, sz, f, rfl⟩
                · exact .inl ⟨g', row', by rw [set_ne _ _ hi]; exact h1, old i g' row' hi (by rw [hf2]; rfl) h1 h2, h3.drop⟩
                · exact .inr ⟨by rw [set_ne _ _ hi]; exact h1, e, sz, f, rfl⟩
          · simp only at hi hj
            rw [fi] at hi hj
            by_cases a1 : i = id
            · rw [if_pos a1] at hi; cases hi
            · by_cases a2 : j = id
              · rw [if_pos a2] at hj; cases hj
              · rw [if_neg a1] at hi
                rw [if_neg a2] at hj
                rw [set_ne _ _ a1] at e1
                rw [set_ne _ _ a2] at e2
                exact hR.inj i j g (by simpa using hi) (by simpa using hj) e1 e2
          · simp only at hi
            have := hlt og hid
            rw [set_ne _ _ (by omega)]
            exact hR.nx i hi
          · obtain ⟨h1, h2⟩ := hR.fr b q hb
            have h3 : L0 b = some q := by
              cases og with
              | none => exact h1
              | some g0 =>
                have hne : b ≠ g0 := by rintro rfl; exact h2 id (by rw [hq]; rfl) hid
                simpa [updo, upd_ne _ _ _ _ hne] using h1
            refine ⟨h3, fun i hi => ?_⟩
            simp only at hi
            rw [fi] at hi
            by_cases a1 : i = id
            · rw [if_pos a1] at hi; cases hi
            · rw [if_neg a1] at hi
              rw [set_ne _ _ a1]
              exact h2 i (by simpa using hi)
          · obtain ⟨p1, p2, e', ap', cs', p3⟩ := hR.pin hp
            have hne : 0 ≠ id := by
              rintro rfl
              rw [hq] at p3; cases p3
            refine ⟨by rw [set_ne _ _ hne]; exact p1, p2, e', ap', dropC id cs', ?_⟩
            show findR (dropH id (delR S.h id)) 0 = _
            rw [fi, if_neg hne, p3]
            rfl
        rcases hsl with ⟨g0, hid, ht⟩ | ⟨hid, hn0, -, ht⟩
        · obtain ⟨row, hL, hrow⟩ := (hR.rw id _ hq).some_g hid
          simp only [RRow] at hrow
          refine go (del L g0) (some g0) row ?_ (by rw [hrow]) (fun g' h => by obtain rfl := Option.some.inj h; simp [del]) hid (by rw [ht]; simp [hv]) (fun h => by cases h)
          funext b'
          simp only [updo, upd, del]
          split
          · rename_i hb'; rw [hb', hL]
          · rfl
        · exact go L none ⟨0, true, vecOf n sz fun i => toAVL (f i)⟩ rfl rfl (fun g' h => by cases h) hid (by rw [ht]; rfl) (fun _ => ⟨by rw [hn0]; simp [vecOf], hn0⟩)
      · cases h
    · cases h
  · rename_i hl
    simp only [Option.some.injEq, Prod.mk.injEq] at h
    obtain ⟨-, rfl⟩ := h
    have hsl := hR.sl d
    rw [hl] at hsl
    simp only [RV] at hsl
    refine JO.retell (t' := t.putO (some d) (.fz 0 (vecOf 0 1 fun _ => toAVL [.v (.p (.string ⟨#[]⟩))]))) (L' := L) (fun b hb => hb) (fun w hw => ⟨hw, fun i x hx => ?_⟩) (K ρ _ L (Rel.put hR (some d) (by simp only [RV, toAV])))
    show VS L w ((t.put d (.fz 0 (vecOf 0 1 fun _ => toAVL [.v (.p (.string ⟨#[]⟩))]))) i) x
    unfold TM.put
    split
    · rename_i hi
      rw [hi, hsl] at hx
      simp only [VS] at hx ⊢
      subst hx
      exact ⟨none, 0, [], rfl, Nat.le_refl _, .inl rfl, by simp [vecOf, VSL]⟩
    · exact hx
  · simp only [Option.some.injEq, Prod.mk.injEq] at h
    obtain ⟨-, rfl⟩ := h
    exact K ρ t L hR
  · cases h
theorem frzArgs_ok {P : Program} {N : Nat} {ops : Array Oper} {Q : Exit → TM → GH → Prop} {os : List Oper} {F : Fr} : ∀ (l : List Operand) (S : XS) (cs : List Prop) (S' : XS) (ρ : Rho) (t : TM) (L : GH), frzArgs l S = some (cs, S') → (∀ p ∈ cs, p) → Rel F ρ S t L → (∀ ρ' t' L', Rel F ρ' S' t' L' → JO P N ops Q os t' L') → JO P N ops Q os t L
  | [], S, cs, S', ρ, t, L, h, hc, hR, K => by
    simp only [frzArgs, Option.some.injEq, Prod.mk.injEq] at h
    obtain ⟨rfl, rfl⟩ := h
    exact K ρ t L hR
  | x :: l, S, cs, S', ρ, t, L, h, hc, hR, K => by
    unfold frzArgs at h
    split at h
    · rename_i he
      cases he
    · rename_i d l' S0 he
      cases he
      split at h
      · split at h
        · rename_i cs1 S1 h1
          split at h
          · rename_i cs2 S2 h2
            simp only [Option.some.injEq, Prod.mk.injEq] at h
            obtain ⟨rfl, rfl⟩ := h
            exact xfrzO_ok h1 (allL hc) hR fun ρ' t' L' hR' => frzArgs_ok l S1 cs2 S2 ρ' t' L' h2 (allR hc) hR' K
          · cases h
        · cases h
      · exact frzArgs_ok l _ cs S' ρ t L h hc hR K
    · rename_i x' l' S0 _ he
      cases he
      exact frzArgs_ok l _ cs S' ρ t L h hc hR K
theorem callA_ok {P : Program} {N : Nat} {ops : Array Oper} {Q : Exit → TM → GH → Prop} {os : List Oper} {F : Fr} {op : Op} {S S' : XS} {ρ : Rho} {t : TM} {L : GH} {X : Cx} {cs : List Prop} (h : callA X S op = some (cs, S')) (hc : ∀ p ∈ cs, p) (hR : Rel F ρ S t L) (K : ∀ ρ' t' L', Rel F ρ' S' t' L' → JO P N ops Q os t' L') : JO P N ops Q os t L := by
  unfold callA at h
  split at h
  · split at h
    · exact frzArgs_ok _ _ _ _ _ _ _ h hc hR K
    · cases h
  · cases h
/-- A region's operations, in the text's order. -/
theorem xgo_ok {X : Cx} (hX : X.ok P) : ∀ (os : List Oper) (S : XS) (G : List (Nat × Bool)) (K : XS → Prop) (ρ : Rho) (t : TM) (L : GH), xgo X N ops.toList os S G K → Rel F ρ S t L → GA ops.toList S.s G →
    (∀ ρ' S' t' L', Rel F ρ' S' t' L' → K S' → Q .normal t' L') → JO P N ops Q os t L
  | [], S, G, K, ρ, t, L, h, hR, _, hK => JO.nil (hK ρ S t L hR h)
  | ⟨d, op, ty, pos, af, gd⟩ :: os, S, G, K, ρ, t, L, h, hR, hG, hK => by
    unfold xgo at h
    split at h
    · exact h.elim
    · rename_i hd0
      have hd := xdok_eq hd0
      simp only at h
      cases gd with
      | none =>
        simp only at h
        split at h
        · rename_i cs v w hs
          split at h
          · rename_i hwd
            obtain ⟨hc, h⟩ := andK_all _ _ h
            unfold xstep at hs
            obtain ⟨v', W, hv, hw, hj⟩ := xop_ok (P := P) (N := N) (ops := ops) (d := d) (ty := ty) (pos := pos) (af := af) (rows := rowsOf ρ L) (val := ev t) hX (fun x _ hc => st_okO hR hG (fun k g h => by cases h) hc)
              (fun c a b hop tb hc hv => pick_ok hR hG (fun k g h => by cases h) c a b hop tb hc hv) (fun id _ r hf g hg => RRow.rows (L := L) hR.rw (rowsOf_ok hR) id r hf g hg) hs hc hd (fun T x y e => by
                subst e
                cases d with
                | none => rfl
                | some d => cases hwd)
            refine hj t L (fun _ _ => rfl) (fun id _ g hg hf => rowsOf_ok hR id g hg hf) Q os ?_
            have hR2 := hR.step d hv hw (fun id r e => by subst e; exact ⟨(xop_wr hs).1, (xop_wr hs).2.2⟩)
            refine xgo_ok hX os _ _ K ρ _ _ h hR2 ?_ hK
            rw [wr_s, put_s]
            cases d with
            | none => exact hG
            | some d =>
              refine hG.put fun c k x e g hk => ?_
              subst e
              cases op <;> cases hwd
          · exact h.elim
        · split at h
          · rename_i cs v S' hn
            obtain ⟨hc, h⟩ := andK_all _ _ h
            exact xnew_ok hX hn hc hR hd fun ρ' t' L' hR' => xgo_ok hX os _ _ K ρ' t' L' h hR' (GA.nil _ _) hK
          · split at h
            · rename_i cs0 S1 hA
              split at h
              · rename_i cs v hs
                split at h
                · rename_i hwd
                  obtain ⟨hc0, h⟩ := andK_all _ _ h
                  obtain ⟨hc, h⟩ := andK_all _ _ h
                  refine callA_ok hA hc0 hR fun ρ1 t1 L1 hR1 => ?_
                  unfold xstep at hs
                  have hG1 : GA ops.toList S1.s [] := GA.nil _ _
                  obtain ⟨v', W, hv, hw, hj⟩ := xop_ok (P := P) (N := N) (ops := ops) (d := d) (ty := ty) (pos := pos) (af := af) (rows := rowsOf ρ1 L1) (val := ev t1) hX (fun x _ hc => st_okO hR1 hG1 (fun k g h => by cases h) hc)
                    (fun c a b hop tb hc hv => pick_ok hR1 hG1 (fun k g h => by cases h) c a b hop tb hc hv) (fun id _ r hf g hg => RRow.rows (L := L1) hR1.rw (rowsOf_ok hR1) id r hf g hg) hs hc hd (fun T x y e => by
                      subst e
                      cases d with
                      | none => rfl
                      | some d => cases hwd)
                  cases W with
                  | some W => exact hw.elim
                  | none =>
                    refine hj t1 L1 (fun _ _ => rfl) (fun id _ g hg hf => rowsOf_ok hR1 id g hg hf) Q os ?_
                    exact xgo_ok hX os _ _ K ρ1 _ _ h (hR1.put d hv) (GA.nil _ _) hK
                · exact h.elim
              · exact h.elim
            · exact xcallL_ok hX h hR hd fun v ρ' S' t' L' h hR' => xgo_ok hX os _ _ K ρ' t' L' h hR' (GA.nil _ _) hK
      | some gd =>
        obtain ⟨j, b⟩ := gd
        simp only at h
        split at h
        · rename_i g k G' d hg
          obtain ⟨hgo, hG', hgk⟩ := xguard_ok hG hg
          split at h
          · rename_i cs v hs
            obtain ⟨hc, h⟩ := andK_all _ _ h
            unfold xstep at hs
            have hput : ∀ b, RV ρ (.gd g k v) b → JO P N ops Q os (t.put d b) L := fun b hb =>
              xgo_ok hX os _ _ K ρ _ _ h (hR.put (some d) hb) (hG'.put fun c k' x e g' hk => by
                injection e with e1 e2 e3
                subst e1
                exact (hgk k' e2 g' hk).symm) hK
            refine guard_ok (S := S) (fun _ s _ _ => hR.sl s) hgo hd (fun hg1 => ?_) (fun hg0 => hput _ (by simp only [RV]; exact ⟨fun h => (by rw [hg0] at h; cases h), fun _ => trivial⟩))
            have hkk : ∀ k1 g1, k = some k1 → fnd G' k1 = some g1 → g1 = true := fun k1 g1 e1 e2 => by rw [hgk k1 e1 g1 (fnd_mem _ _ _ e2)]; exact hg1
            obtain ⟨v', W, hv, hw, hj⟩ := xop_ok (P := P) (N := N) (ops := ops) (d := some d) (ty := ty) (pos := pos) (af := af) (rows := rowsOf ρ L) (val := ev t) hX (fun x _ hc => st_okO hR hG' hkk hc)
              (fun c a b hop tb hc hv => pick_ok hR hG' hkk c a b hop tb hc hv) (fun id _ r hf g hg => RRow.rows (L := L) hR.rw (rowsOf_ok hR) id r hf g hg) hs (fun p hp => hc _ (List.mem_map_of_mem hp) hg1) hd (fun T x y e => by subst e; exact absurd rfl (store_wr hs))
            cases W with
            | some W => exact hw.elim
            | none => exact hj t L (fun _ _ => rfl) (fun id _ g hg hf => rowsOf_ok hR id g hg hf) Q os (hput v' (by simp only [RV]; exact ⟨fun _ => hv, fun h => (by rw [hg1] at h; cases h)⟩))
          · exact h.elim
        · exact h.elim
/-! Regions where each test parts the ways -/
/-- What is decided is so. -/
def DA (s : List (Nat × XV)) (D : DT) : Prop := ∀ d g, fnd D d = some g → look s d = match g with
  | some b => .v (.p (.bool b))
  | none => .v (.p undef)
theorem DA.nil (s : List (Nat × XV)) : DA s [] := fun d g h => by cases h
theorem fnd_dropD (d : Nat) : ∀ (D : DT) (i : Nat), fnd (dropD d D) i = if i = d then none else fnd D i
  | [], i => by simp [dropD, fnd]
  | (k, g) :: D, i => by
    simp only [dropD, beqN]
    by_cases hk : k = d
    · rw [decide_eq_true hk, cond_true, fnd_dropD d D i]
      by_cases hi : i = d
      · rw [if_pos hi, if_pos hi]
      · rw [if_neg hi, if_neg hi]
        simp only [fnd, beqN]
        rw [decide_eq_false (by omega), cond_false]
    · rw [decide_eq_false hk, cond_false]
      simp only [fnd, beqN]
      by_cases hi : i = k
      · rw [decide_eq_true hi, cond_true, cond_true, if_neg (by omega)]
      · rw [decide_eq_false hi, cond_false, cond_false, fnd_dropD d D i]
theorem DA.put {s : List (Nat × XV)} {D : DT} (h : DA s D) (d : Nat) (v : XV) : DA ((d, v) :: s) (dropD d D) := by
  intro i g hi
  rw [fnd_dropD] at hi
  by_cases hd : i = d
  · rw [if_pos hd] at hi; cases hi
  · rw [if_neg hd] at hi
    rw [look_put, if_neg hd]
    exact h i g hi
theorem DA.add {s : List (Nat × XV)} {D : DT} (h : DA s D) (d : Nat) (g : Option Bool) (v : XV) (hv : v = match g with | some b => .v (.p (.bool b)) | none => .v (.p undef)) : DA ((d, v) :: s) ((d, g) :: dropD d D) := by
  intro i g' hi
  simp only [fnd, beqN] at hi
  by_cases hd : i = d
  · rw [decide_eq_true hd, cond_true] at hi
    obtain rfl := Option.some.inj hi
    rw [look_put, if_pos hd]
    exact hv
  · rw [decide_eq_false hd, cond_false, fnd_dropD, if_neg hd] at hi
    rw [look_put, if_neg hd]
    exact h i g' hi
theorem JO.offN {j s : Nat} {b : Bool} {pos : String} (hs : s < N) (hj : (ops[j]?).bind (·.dst) = some s) (ht : t s = .p undef ∨ ∃ c, t s = .p (.bool c) ∧ (c == b) = false) (h : JO P N ops Q os t L) :
    JO P N ops Q (⟨none, op, ty, pos, af, some (j, b)⟩ :: os) t L := by
  intro L0 w0 a w he sm
  have hv := sm.tm s
  have hsz : s < a.tmps.size := by rw [sm.size]; exact hs
  have hw : Region.wanted ⟨none, op, ty, pos, af, some (j, b)⟩ (yielded ops a.tmps) = false := by
    rcases ht with ht | ⟨c, ht, hc⟩
    · rw [ht] at hv
      simp only [VS] at hv
      have h2 : a.tmps[s]? = some undef := by
        rw [Array.getD_eq_getD_getElem?, Array.getElem?_eq_getElem hsz] at hv
        rw [Array.getElem?_eq_getElem hsz]
        simpa using hv
      simp [Region.wanted, yielded, hj, h2, undef]
    · rw [ht] at hv
      simp only [VS] at hv
      have h2 : a.tmps[s]? = some (.bool c) := by
        rw [Array.getD_eq_getD_getElem?, Array.getElem?_eq_getElem hsz] at hv
        rw [Array.getElem?_eq_getElem hsz]
        simpa using hv
      simp [Region.wanted, yielded, hj, h2, hc]
  unfold wpList
  rw [if_neg (by rw [hw]; simp)]
  exact h L0 w0 a w he sm
theorem xrun1_ok {X : Cx} (hX : X.ok P) {D : DT} {K : XS → DT → Prop} (h : xrun1 X ops.toList S D ⟨d, op, ty, pos, af, none⟩ K) (hR : Rel F ρ S t L) (hD : DA S.s D) (hd : dok N d = true)
    (hK : ∀ ρ' S' t' L' D', K S' D' → Rel F ρ' S' t' L' → DA S'.s D' → JO P N ops Q os t' L') : JO P N ops Q (⟨d, op, ty, pos, af, none⟩ :: os) t L := by
  unfold xrun1 at h
  have dput : ∀ v, DA (S.put d v).s (dropDo d D) := by
    intro v
    cases d with
    | none => exact hD
    | some d => exact hD.put d v
  split at h
  · rename_i x hx
    simp only at h
    split at h
    · obtain ⟨hc, h⟩ := andK_all _ _ h
      have hv := st_none (xev_ok hR x) hc
      simp only at hx
      unfold dpick at hx
      have go : ∀ (s : Nat) (a b : Operand) (c : Bool), op = .pick (.tmp s) a b → fnd D s = some (some c) → x = (if c then a else b) → JO P N ops Q (⟨d, op, ty, pos, af, none⟩ :: os) t L := by
        intro s a b c hop hf hxx
        have hs := hR.sl s
        rw [hD s _ hf] at hs
        simp only [RV] at hs
        subst hop
        refine JO.pure (v := ev t x) ?_ hd (hK _ _ _ _ _ h (hR.put d hv) (dput _))
        have he : ev t (.tmp s) = .p (.bool c) := hs
        simp only [YthomfpdigmeheaaDoorAv.fv, he]
        cases c <;> simp [hxx]
      split at hx
      · rename_i s a b
        split at hx
        · rename_i hf
          obtain rfl := Option.some.inj hx
          exact go s _ b true rfl hf rfl
        · rename_i hf
          obtain rfl := Option.some.inj hx
          exact go s a _ false rfl hf rfl
        · cases hx
      · cases hx
    · exact h.elim
  · split at h
    · rename_i cs v w hs
      split at h
      · rename_i hwd
        obtain ⟨hc, h⟩ := andK_all _ _ h
        unfold xstep at hs
        have hG := GA.nil ops.toList S.s
        obtain ⟨v', W, hv, hw, hj⟩ := xop_ok (P := P) (N := N) (ops := ops) (d := d) (ty := ty) (pos := pos) (af := af) (rows := rowsOf ρ L) (val := ev t) hX (fun x _ hc => st_okO hR hG (fun k g h => by cases h) hc)
          (fun c a b hop tb hc hv => pick_ok hR hG (fun k g h => by cases h) c a b hop tb hc hv) (fun id _ r hf g hg => RRow.rows (L := L) hR.rw (rowsOf_ok hR) id r hf g hg) hs hc hd (fun T x y e => by
            subst e
            cases d with
            | none => rfl
            | some d => cases hwd)
        refine hj t L (fun _ _ => rfl) (fun id _ g hg hf => rowsOf_ok hR id g hg hf) Q os ?_
        have hR2 := hR.step d hv hw (fun id r e => by subst e; exact ⟨(xop_wr hs).1, (xop_wr hs).2.2⟩)
        exact hK _ _ _ _ _ h hR2 (by rw [wr_s]; exact dput v)
      · exact h.elim
    · split at h
      · rename_i cs v S' hn
        obtain ⟨hc, h⟩ := andK_all _ _ h
        exact xnew_ok hX hn hc hR hd fun ρ' t' L' hR' => hK _ _ _ _ _ h hR' (DA.nil _)
      · exact xcallL_ok hX h hR hd fun v ρ' S' t' L' h hR' => hK _ _ _ _ _ h hR' (DA.nil _)
theorem xoff_ok {D : DT} {K : XS → DT → Prop} {j s : Nat} {b : Bool} (h : xoff S D ⟨d, op, ty, pos, af, some (j, b)⟩ K) (hR : Rel F ρ S t L) (hD : DA S.s D) (hd : dok N d = true) (hs : s < N) (hj : (ops[j]?).bind (·.dst) = some s)
    (ht : t s = .p undef ∨ ∃ c, t s = .p (.bool c) ∧ (c == b) = false)
    (hK : ∀ ρ' S' t' L' D', K S' D' → Rel F ρ' S' t' L' → DA S'.s D' → JO P N ops Q os t' L') : JO P N ops Q (⟨d, op, ty, pos, af, some (j, b)⟩ :: os) t L := by
  cases d with
  | none => exact JO.offN hs hj ht (hK _ _ _ _ _ h hR hD)
  | some d =>
    have hdN : d < N := dok_lt hd d rfl
    have k := hK _ _ _ _ _ h (hR.put (some d) (v := .v (.p undef)) (b := .p undef) (by simp [RV])) (hD.add d none _ rfl)
    rcases ht with ht | ⟨c, ht, hc⟩
    · exact JO.offU hdN hs hj ht k
    · exact JO.off hdN hs hj ht hc k
theorem xgf_ok {X : Cx} (hX : X.ok P) {m : Bool} : ∀ (os : List Oper) (S : XS) (D : DT) (K : XS → Prop) (ρ : Rho) (t : TM) (L : GH), xgf X N ops.toList m os S D K → Rel F ρ S t L → DA S.s D →
    (∀ ρ' S' t' L', Rel F ρ' S' t' L' → K S' → Q .normal t' L') → JO P N ops Q os t L
  | [], S, D, K, ρ, t, L, h, hR, _, hK => JO.nil (hK ρ S t L hR h)
  | ⟨d, op, ty, pos, af, gd⟩ :: os, S, D, K, ρ, t, L, h, hR, hD, hK => by
    unfold xgf at h
    split at h
    · exact h.elim
    · rename_i hd0
      have hd := xdok_eq hd0
      have next : ∀ ρ' S' t' L' D', xgf X N ops.toList m os S' D' K → Rel F ρ' S' t' L' → DA S'.s D' → JO P N ops Q os t' L' := fun ρ' S' t' L' D' h hR hD => xgf_ok hX os S' D' K ρ' t' L' h hR hD hK
      simp only at h
      cases gd with
      | none => exact xrun1_ok hX h hR hD hd next
      | some gd =>
        obtain ⟨j, b⟩ := gd
        simp only at h
        split at h
        · exact h.elim
        · rename_i s hsl
          have hj : (ops[j]?).bind (·.dst) = some s := by
            unfold slotOf at hsl
            split at hsl
            · rename_i hn; exact nth_bind hn hsl
            · cases hsl
          split at h
          · exact h.elim
          · rename_i hs0 hf
            rw [bltN, decide_eq_true_eq] at hs0
            have hs := hR.sl s
            rw [hD s _ hf] at hs
            simp only [RV] at hs
            exact xoff_ok h hR hD hd hs0 hj (.inl hs) next
          · rename_i c hs0 hf
            rw [bltN, decide_eq_true_eq] at hs0
            have hs := hR.sl s
            rw [hD s _ hf] at hs
            simp only [RV] at hs
            split at h
            · rename_i he
              exact JO.on hs0 hj hs (by revert he; cases c <;> cases b <;> decide) (xrun1_ok hX h hR hD hd next)
            · rename_i he
              exact xoff_ok h hR hD hd hs0 hj (.inr ⟨c, hs, by revert he; cases c <;> cases b <;> decide⟩) next
          · rename_i hs0 hf
            rw [bltN, decide_eq_true_eq] at hs0
            split at h
            · rename_i c hl
              have hs := hR.sl s
              rw [hl] at hs
              simp only [RV] at hs
              have put' : ∀ c', c = c' → Rel F ρ (S.put (some s) (.v (.p (.bool c')))) t L := by
                rintro c' rfl
                have := hR.put (some s) (v := .v (.p (.bool c))) (b := .p (.bool c)) (by simp [RV])
                have e : t.putO (some s) (.p (.bool c)) = t := by
                  funext i
                  simp only [TM.putO, TM.put]
                  split
                  · rename_i hi; rw [hi, hs]
                  · rfl
                rw [e] at this
                exact this
              split at h
              · split at h
                · split at h
                  · exact JO.on hs0 hj hs rfl (xrun1_ok hX h (put' _ rfl) (hD.add s (some true) _ rfl) hd next)
                  · exact xoff_ok h (put' _ rfl) (hD.add s (some true) _ rfl) hd hs0 hj (.inr ⟨_, hs, rfl⟩) next
                · split at h
                  · exact xoff_ok h (put' _ rfl) (hD.add s (some false) _ rfl) hd hs0 hj (.inr ⟨_, hs, rfl⟩) next
                  · exact JO.on hs0 hj hs rfl (xrun1_ok hX h (put' _ rfl) (hD.add s (some false) _ rfl) hd next)
              obtain ⟨h1, h2⟩ := h
              by_cases hcb : c = b
              · have hR' : Rel F ρ (S.put (some s) (.v (.p (.bool b)))) t L := by
                  have := hR.put (some s) (v := .v (.p (.bool b))) (b := .p (.bool b)) (by simp [RV])
                  have e : t.putO (some s) (.p (.bool b)) = t := by
                    funext i
                    simp only [TM.putO, TM.put]
                    split
                    · rename_i hi; rw [hi, hs, hcb]
                    · rfl
                  rw [e] at this
                  exact this
                exact JO.on hs0 hj hs (by rw [hcb]; simp) (xrun1_ok hX (h1 hcb) hR' (hD.add s (some b) _ rfl) hd next)
              · have hcb' : c = !b := by cases c <;> cases b <;> simp_all
                have hR' : Rel F ρ (S.put (some s) (.v (.p (.bool (!b))))) t L := by
                  have := hR.put (some s) (v := .v (.p (.bool (!b)))) (b := .p (.bool (!b))) (by simp [RV])
                  have e : t.putO (some s) (.p (.bool (!b))) = t := by
                    funext i
                    simp only [TM.putO, TM.put]
                    split
                    · rename_i hi; rw [hi, hs, hcb']
                    · rfl
                  rw [e] at this
                  exact this
                exact xoff_ok (h2 hcb') hR' (hD.add s (some (!b)) _ rfl) hd hs0 hj (.inr ⟨c, hs, by rw [hcb']; cases b <;> rfl⟩) next
            · exact h.elim
end
end Go.Proofs.YthomfpdigmeheaaDoorAv
set_option linter.unusedVariables false
set_option linter.unusedSimpArgs false
namespace Go.Proofs.YthomfpdigmeheaaDoorAv
open Go Go.RowKit
section
variable {P : Program} {N : Nat} {ops : Array Oper} {Q : Exit → TM → GH → Prop} {d : Option Nat} {ty : TypeId} {pos : String} {af : Array Edge} {op : Op} {ρ : Rho} {F : Fr} {S S' : XS} {t : TM} {L : GH} {v : XV} {os : List Oper}
/-- A region whose order is drawn; blocks by any numbers. -/
theorem J.drawT {id : Nat} {l : List Oper} (tb : Nat → Nat) (ann : List (List Nat × Option Nat)) (hm : P.follows .mixedOrders = true) (hB : ordB l.toArray ann = true)
    (hN : (l.all fun o => dok N o.dst) = true) (hal : ann.length = l.length) (hinj : ∀ k x y, x ∈ (ann.getD k ([], none)).1 ∨ (ann.getD k ([], none)).2 = some x → ∀ j, (y ∈ (ann.getD j ([], none)).1 ∨ (ann.getD j ([], none)).2 = some y) → tb x = tb y → x = y)
    (hdom : ∀ k x, (ann.getD k ([], none)).2 = some x → (L (tb x)).isSome = true) (h : JD P N l.toArray tb L l ann t L (fun t' L' => Q .normal t' L')) : J P N (.region id l.toArray true) Q t L := by
  intro L0 w0 a w he hs
  obtain ⟨V, W, h1, h2, h3, h4⟩ := JD_spec (ops := l.toArray) (ann := ann) (t := t) (L := L) l 0 (fun _ => .top) (fun _ => none) (fun j => by simp) h
  simp only [Nat.zero_add] at h1 h2 h3 h4
  have hWall : ∀ k, (W k).map (·.1) = (ann.getD k ([], none)).2.map tb := by
    intro k
    by_cases hk : k < l.length
    · exact h2 k (Nat.zero_le _) hk
    · have e := (h1 k (.inr (by omega))).2
      rw [e]
      rw [List.getD_eq_getElem?_getD, List.getElem?_eq_none (by omega)]
      rfl
  refine wp_region_any hm ?_
  have hz : ∀ j, (Array.replicate l.toArray.size false).getD j false = false := by
    intro j
    rw [Array.getD_eq_getD_getElem?, Array.getElem?_replicate]
    split <;> rfl
  have e1 : refT l.toArray V t (fun j => (Array.replicate l.toArray.size false).getD j false) l.toArray.size = t := by
    have : ∀ k, refT l.toArray V t (fun j => (Array.replicate l.toArray.size false).getD j false) k = t := by
      intro k
      induction k with
      | zero => rfl
      | succ k ih => rw [refT, if_neg (by rw [hz]; simp)]; exact ih
    rw [this]
  have e2 : refL W L (fun j => (Array.replicate l.toArray.size false).getD j false) l.toArray.size = L := by
    have : ∀ k, refL W L (fun j => (Array.replicate l.toArray.size false).getD j false) k = L := by
      intro k
      induction k with
      | zero => rfl
      | succ k ih => rw [refL, if_neg (by rw [hz]; simp)]; exact ih
    rw [this]
  have hx : Ext L w L { w with drawn := w.drawn + 1 } := ⟨rfl, rfl, rfl, Nat.le_refl _, fun _ _ _ => rfl, fun _ _ h => h, fun _ c e fr h => ⟨c, e, fr, h, rfl⟩⟩
  refine draw_any (V := V) (W := W) (t := t) (L := L) hB hinj ?_ hWall ?_ (fun k o ho L' hd hr _ => h3 k o (Nat.zero_le _) ho L' hd hr) (by simpa using h4) _ _ a _ (by simp) ?_ ?_ ?_ ?_
  · intro k o d ho hd
    have hmem : o ∈ l := List.mem_of_getElem? (by simpa using ho)
    have := List.all_eq_true.1 hN o hmem
    rw [hd] at this
    simpa [dok] using this
  · intro k g r hw
    have := hWall k
    rw [hw] at this
    cases hy : (ann.getD k ([], none)).2 with
    | none => rw [hy] at this; cases this
    | some y =>
      rw [hy] at this
      have hg : g = tb y := Option.some.inj this
      rw [hg]
      exact hdom k y hy
  · intro j oj _ hl
    rw [hz j] at hl
    cases hl
  · have : left l.toArray.size (Array.replicate l.toArray.size false) ≤ (List.range l.toArray.size).length := List.length_filter_le _ _
    simpa using this
  · rw [e1, e2]; exact hs.ext hx (fun g r hg => (hs.rows g r hg).ext hx rfl)
  · rw [e2]; exact he.trans hx
theorem st_snd {G G' : List (Nat × Bool)} {k k' : Option Nat} (y : XV) : (y.st G k).2 = (y.st G' k').2 := by
  cases y with
  | gd c q x => simp only [XV.st]; split <;> split <;> rfl
  | _ => rfl
theorem touch_eq {G : List (Nat × Bool)} {k : Option Nat} (s : List (Nat × XV)) (op : Op) : touchX (fun x => (xev s x).st G k) op = touch s op := by
  cases op with
  | call c =>
    simp only [touchX, touch]
    cases c.args.toList with
    | nil => rfl
    | cons x l => cases l with
      | nil => simp only; rw [st_snd (G := G) (k := k) (G' := []) (k' := none)]
      | cons y l => simp only; rw [st_snd (G := G) (k := k) (G' := []) (k' := none), st_snd (G := G) (k := k) (G' := []) (k' := none) (xev s y)]
  | load T x => simp only [touchX, touch]; rw [st_snd (G := G) (k := k) (G' := []) (k' := none)]
  | store T x y => simp only [touchX, touch]; rw [st_snd (G := G) (k := k) (G' := []) (k' := none)]
  | slice T x _ _ _ => simp only [touchX, touch]; rw [st_snd (G := G) (k := k) (G' := []) (k' := none)]
  | convert S T x => simp only [touchX, touch]; rw [st_snd (G := G) (k := k) (G' := []) (k' := none)]
  | _ => rfl
theorem rst_ev {o : Oper} {x : Operand} (hx : x ∈ o.op.operands.toList) (t : TM) : ev (rst (o.looksAt ops) t) x = ev t x := by
  cases x with
  | tmp n =>
    simp only [ev]
    rw [rst_at, if_pos]
    simp only [Oper.looksAt, List.contains_eq_mem, List.mem_append, decide_eq_true_eq]
    exact .inl (List.mem_filterMap.2 ⟨.tmp n, hx, rfl⟩)
  | _ => rfl
theorem rst_guard {o : Oper} {j s : Nat} {b : Bool} {og : Oper} (hg : o.guard = some (j, b)) (hn : nth ops.toList j = some og) (hd : og.dst = some s) (t : TM) : (rst (o.looksAt ops) t) s = t s := by
  rw [rst_at, if_pos]
  simp only [Oper.looksAt, List.contains_eq_mem, List.mem_append, decide_eq_true_eq, hg]
  right
  rw [nth_bind hn hd]
  simp
def gOf : Option (Option Nat) → Nat
  | some (some g) => g
  | _ => 0
def bnd (ρ : Rho) : Nat → Nat
  | 0 => 1
  | n + 1 => bnd ρ n + gOf (ρ n)
theorem bnd_lt {ρ : Rho} {x g : Nat} (h : ρ x = some (some g)) : ∀ {n : Nat}, x < n → g < bnd ρ n
  | 0, hx => by omega
  | n + 1, hx => by
    simp only [bnd]
    have pos : ∀ n, 0 < bnd ρ n := by
      intro n
      induction n with
      | zero => simp [bnd]
      | succ n ih => simp only [bnd]; omega
    by_cases hn : x = n
    · subst hn
      rw [h]
      have := pos x
      simp only [gOf]
      omega
    · have := bnd_lt h (n := n) (by omega)
      omega
/-- A block's own number; of one that is not there: one that is no block's. -/
def tbOf (ρ : Rho) (n : Nat) : Nat → Nat := fun id => match ρ id with
  | some (some g) => g
  | _ => bnd ρ n + id
theorem tbOf_inj (hR : Rel F ρ S t L) {x y : Nat} (hx : (findR S.h x).isSome = true) (hy : (findR S.h y).isSome = true) (h : tbOf ρ S.nx x = tbOf ρ S.nx y) : x = y := by
  have dom : ∀ z, (findR S.h z).isSome = true → z < S.nx := by
    intro z hz
    rcases Nat.lt_or_ge z S.nx with hl | hl
    · exact hl
    · cases hf : findR S.h z with
      | none => rw [hf] at hz; cases hz
      | some r =>
        rcases hR.rw z r hf with ⟨g, row, h1, _⟩ | ⟨h1, _⟩ <;> rw [hR.nx z hl] at h1 <;> cases h1
  have hxn := dom x hx
  have hyn := dom y hy
  unfold tbOf at h
  split at h
  · rename_i g hg
    split at h
    · rename_i g' hg'
      subst h
      exact hR.inj x y _ hx hy hg hg'
    · have := bnd_lt hg hxn
      omega
  · split at h
    · rename_i g' hg'
      have := bnd_lt hg' hyn
      omega
    · omega
/-- An annotation names blocks that are told of. -/
def annOk (ρ : Rho) (h : List (Nat × XRow)) (a : List Nat × Option Nat) : Prop :=
  (∀ x, x ∈ a.1 ∨ a.2 = some x → (findR h x).isSome = true) ∧ ∀ x, a.2 = some x → ∃ g, ρ x = some (some g)
theorem wr_dom (S : XS) (w : Option (Nat × XRow)) (hw : ∀ id r, w = some (id, r) → (findR S.h id).isSome = true) (x : Nat) : (findR (S.wr w).h x).isSome = (findR S.h x).isSome := by
  cases w with
  | none => rfl
  | some w =>
    obtain ⟨id, r⟩ := w
    simp only [XS.wr]
    rw [findR_put, findR_del]
    by_cases hx : x = id
    · rw [if_pos hx, hx, hw id r rfl]; rfl
    · rw [if_neg hx, if_neg hx]
theorem put_h (S : XS) (d : Option Nat) (v : XV) : (S.put d v).h = S.h := by cases d <;> rfl
theorem thereB_mem {h : List (Nat × XRow)} : ∀ {l : List Nat} {x : Nat}, x ∈ thereB h l ↔ x ∈ l ∧ (findR h x).isSome = true
  | [], x => by simp [thereB]
  | id :: l, x => by
    simp only [thereB]
    split
    · rename_i r hr
      rw [List.mem_cons, thereB_mem, List.mem_cons]
      constructor
      · rintro (rfl | ⟨h1, h2⟩)
        · exact ⟨.inl rfl, by rw [hr]; rfl⟩
        · exact ⟨.inr h1, h2⟩
      · rintro ⟨rfl | h1, h2⟩
        · exact .inl rfl
        · exact .inr ⟨h1, h2⟩
    · rename_i hr
      rw [thereB_mem, List.mem_cons]
      constructor
      · rintro ⟨h1, h2⟩; exact ⟨.inr h1, h2⟩
      · rintro ⟨rfl | h1, h2⟩
        · rw [hr] at h2; cases h2
        · exact ⟨h1, h2⟩
theorem xdr_ok {X : Cx} (hX : X.ok P) (n : Nat) : ∀ (os : List Oper) (S : XS) (G : List (Nat × Bool)) (acc : List (List Nat × Option Nat)) (K : XS → List (List Nat × Option Nat) → Prop) (t : TM) (L : GH), xdr X N ops.toList os S G acc K → Rel F ρ S t L → GA ops.toList S.s G →
    ∃ ann S' t' L', ann.length = os.length ∧ JN P N ops (tbOf ρ n) os ann t L (fun t2 L2 => t2 = t' ∧ L2 = L') ∧ Rel F ρ S' t' L' ∧ K S' (ann.reverse ++ acc) ∧ (∀ a ∈ ann, annOk ρ S.h a) ∧ (os.all fun o => dok N o.dst) = true
  | [], S, G, acc, K, t, L, h, hR, _ => ⟨[], S, t, L, rfl, ⟨rfl, rfl⟩, hR, h, by simp, rfl⟩
  | ⟨d, op, ty, pos, af, gd⟩ :: os, S, G, acc, K, t, L, h, hR, hG => by
    unfold xdr at h
    split at h
    · exact h.elim
    · rename_i hd0
      have hd := xdok_eq hd0
      simp only at h
      have tbg : ∀ id g, ρ id = some (some g) → tbOf ρ n id = g := fun id g hg => by simp [tbOf, hg]
      have annT : ∀ {X : Cx} {G : List (Nat × Bool)} {k : Option Nat} {eT eF : Operand → List Prop × XV} {cs : List Prop} {v : XV} {w : Option (Nat × XRow)} {W : Option (Nat × Row)}, xop X S.h (fun x => (xev S.s x).st G k) eT eF op = some (cs, v, w) → WRel ρ w W →
          annOk ρ S.h (thereB S.h (touch S.s op), w.map (·.1)) := by
        intro X G k eT eF cs v w W hs hw
        refine ⟨fun x hx => ?_, fun x hx => ?_⟩
        · rcases hx with hx | hx
          · exact (thereB_mem.1 hx).2
          · cases w with
            | none => cases hx
            | some w =>
              obtain ⟨id, r⟩ := w
              obtain rfl := Option.some.inj hx
              exact (xop_wr hs).1
        · cases w with
          | none => cases hx
          | some w =>
            cases W with
            | none => obtain ⟨a, b⟩ := w; exact hw.elim
            | some W =>
              obtain ⟨id, r⟩ := w
              obtain ⟨g, row⟩ := W
              obtain rfl := Option.some.inj hx
              exact ⟨g, hw.1⟩
      have wtb : ∀ {w : Option (Nat × XRow)} {W : Option (Nat × Row)}, WRel ρ w W → W.map (·.1) = (w.map (·.1)).map (tbOf ρ n) := by
        intro w W hw
        cases w with
        | none => cases W with
          | none => rfl
          | some W => exact hw.elim
        | some w => cases W with
          | none => obtain ⟨a, b⟩ := w; exact hw.elim
          | some W =>
            obtain ⟨id, r⟩ := w
            obtain ⟨g, row⟩ := W
            simp only [Option.map_some]
            rw [tbg id g hw.1]
      cases gd with
      | none =>
        simp only at h
        split at h
        · rename_i cs v w hs
          split at h
          · rename_i hwd
            obtain ⟨hc, h⟩ := andK_all _ _ h
            unfold xstep at hs
            obtain ⟨v', W, hv, hw, hj⟩ := xop_ok (P := P) (N := N) (ops := ops) (d := d) (ty := ty) (pos := pos) (af := af) (rows := rowsOf ρ L) (val := ev t) hX (fun x _ hc => st_okO hR hG (fun k g h => by cases h) hc)
              (fun c a b hop tb hc hv => pick_ok hR hG (fun k g h => by cases h) c a b hop tb hc hv) (fun id _ r hf g hg => RRow.rows (L := L) hR.rw (rowsOf_ok hR) id r hf g hg) hs hc hd (fun T x y e => by
                subst e
                cases d with
                | none => rfl
                | some d => cases hwd)
            have hid : ∀ id r, w = some (id, r) → (findR S.h id).isSome = true ∧ ∀ e ap cs, findR S.h id = some (.one e ap cs) → ∃ e' ap' cs', r = .one e' ap' cs' := fun id r e => by subst e; exact ⟨(xop_wr hs).1, (xop_wr hs).2.2⟩
            have hR2 := hR.step d hv hw hid
            obtain ⟨ann, S', t', L', i1, i2, i3, i4, i5, i6⟩ := xdr_ok hX n os _ _ _ K _ _ h hR2 (by
              rw [wr_s, put_s]
              cases d with
              | none => exact hG
              | some d =>
                refine hG.put fun c k x e g hk => ?_
                subst e
                cases op <;> cases hwd)
            refine ⟨(thereB S.h (touch S.s op), w.map (fun p : Nat × XRow => p.1)) :: ann, S', t', L', by simp [i1], ⟨v', W, wtb hw, fun L1 hag => ?_, i2⟩, i3, by simpa using i4, fun a ha => ?_, by simp [hd, i6]⟩
            · intro Q os' K'
              refine hj _ L1 (fun x hx => rst_ev (o := ⟨d, op, ty, pos, af, none⟩) hx t) (fun id hid2 g hg hf => ?_) Q os' K'
              have h3 := hag id (by simp only [List.headD_cons]; rw [touch_eq] at hid2; exact thereB_mem.2 ⟨hid2, hf⟩) (by rw [tbg id g hg, rowsOf_ok hR id g hg hf]; rfl)
              rw [tbg id g hg] at h3
              rw [h3]
              exact rowsOf_ok hR id g hg hf
            · rcases List.mem_cons.1 ha with rfl | ha
              · exact annT hs hw
              · obtain ⟨a1, a2⟩ := i5 a ha
                refine ⟨fun x hx => ?_, a2⟩
                have := a1 x hx
                have e1 := wr_dom (S.put d v) w (fun id r e => by rw [put_h]; exact (hid id r e).1) x
                rw [e1, put_h] at this
                exact this
          · exact h.elim
        · exact h.elim
      | some gd =>
        obtain ⟨j, b⟩ := gd
        simp only at h
        split at h
        · rename_i g k G' d hg
          obtain ⟨hgo, hG', hgk⟩ := xguard_ok hG hg
          split at h
          · rename_i cs v hs
            obtain ⟨hc, h⟩ := andK_all _ _ h
            unfold xstep at hs
            have hput : ∀ b, RV ρ (.gd g k v) b → Rel F ρ (S.put (some d) (.gd g k v)) (t.put d b) L := fun b hb => hR.put (some d) hb
            have hGA : GA ops.toList (S.put (some d) (.gd g k v)).s (dropG ops.toList d G') := hG'.put fun c k' x e g' hk => by
                injection e with e1 e2 e3
                subst e1
                exact (hgk k' e2 g' hk).symm
            have hkk : g = true → ∀ k1 g1, k = some k1 → fnd G' k1 = some g1 → g1 = true := fun hg1 k1 g1 e1 e2 => by rw [hgk k1 e1 g1 (fnd_mem _ _ _ e2)]; exact hg1
            have hgR : ∀ o s, nth ops.toList j = some o → o.dst = some s → RV ρ (look S.s s) ((rst (Oper.looksAt ops ⟨some d, op, ty, pos, af, some (j, b)⟩) t) s) := fun o s h1 h2 => by
              rw [rst_guard (o := ⟨some d, op, ty, pos, af, some (j, b)⟩) rfl h1 h2]; exact hR.sl s
            -- the value, whichever the test
            obtain ⟨b', hb', hst⟩ : ∃ b', RV ρ (.gd g k v) b' ∧ ∀ L1, (∀ x ∈ thereB S.h (touch S.s op), (L (tbOf ρ n x)).isSome = true → L1 (tbOf ρ n x) = L (tbOf ρ n x)) → StepW P N ops ⟨some d, op, ty, pos, af, some (j, b)⟩ (rst (Oper.looksAt ops ⟨some d, op, ty, pos, af, some (j, b)⟩) t) L1 ((rst (Oper.looksAt ops ⟨some d, op, ty, pos, af, some (j, b)⟩) t).putO (some d) b') L1 := by
              cases hg1 : g with
              | false =>
                refine ⟨.p undef, by simp only [RV]; exact ⟨fun h => (by cases h), fun _ => trivial⟩, fun L1 _ Q os' K' => ?_⟩
                exact guard_ok (S := S) hgR hgo hd (fun h => by rw [hg1] at h; cases h) (fun _ => K')
              | true =>
                obtain ⟨v', W, hv, hw, hj⟩ := xop_ok (P := P) (N := N) (ops := ops) (d := some d) (ty := ty) (pos := pos) (af := af) (rows := rowsOf ρ L) (val := ev t) hX (fun x _ hc => st_okO hR hG' (hkk hg1) hc)
                  (fun c a b hop tb hc hv => pick_ok hR hG' (hkk hg1) c a b hop tb hc hv) (fun id _ r hf g hg => RRow.rows (L := L) hR.rw (rowsOf_ok hR) id r hf g hg) hs (fun p hp => hc _ (List.mem_map_of_mem hp) hg1) hd (fun T x y e => by subst e; exact absurd rfl (store_wr hs))
                cases W with
                | some W => exact hw.elim
                | none =>
                  refine ⟨v', by simp only [RV]; exact ⟨fun _ => hv, fun h => (by cases h)⟩, fun L1 hag Q os' K' => ?_⟩
                  refine guard_ok (S := S) hgR hgo hd (fun _ => ?_) (fun h => by rw [hg1] at h; cases h)
                  refine hj _ L1 (fun x hx => rst_ev (o := ⟨some d, op, ty, pos, af, some (j, b)⟩) hx t) (fun id hid2 g hg hf => ?_) Q os' K'
                  have h3 := hag id (by rw [touch_eq] at hid2; exact thereB_mem.2 ⟨hid2, hf⟩) (by rw [tbg id g hg, rowsOf_ok hR id g hg hf]; rfl)
                  rw [tbg id g hg] at h3
                  rw [h3]
                  exact rowsOf_ok hR id g hg hf
            obtain ⟨ann, S', t', L', i1, i2, i3, i4, i5, i6⟩ := xdr_ok hX n os _ _ _ K _ _ h (hput b' hb') hGA
            refine ⟨(thereB S.h (touch S.s op), none) :: ann, S', t', L', by simp [i1], ⟨b', none, ?_, fun L1 hag => hst L1 hag, i2⟩, i3, by simpa using i4, fun a ha => ?_, by simp [hd, i6]⟩
            · rfl
            · rcases List.mem_cons.1 ha with rfl | ha
              · exact annT (W := none) hs trivial
              · exact i5 a ha
          · exact h.elim
        · exact h.elim
/-- What a new variable's block holds. -/
def rowAl (X : Cx) (l : List Oper) (k : Nat) : Row := match l[k]? with
  | some ⟨_, .alloc T, _, _, _, _⟩ => match fnd X.I T with
    | some (z, _, _) => ⟨T, true, z.cells.toList.map AV.p⟩
    | none => ⟨0, true, []⟩
  | _ => ⟨0, true, []⟩
theorem xal_step {X : Cx} (hX : X.ok P) {l : List Oper} : ∀ (os : List Oper) (k : Nat) (S S2 : XS), (∀ i, i < os.length → os[i]? = l[k + i]?) → xal X N os S = some S2 → ∀ (i : Nat) (o : Oper), os[i]? = some o → isAl o = true → StepA P N ops o (dstAt l (k + i)) (rowAl X l (k + i))
  | [], _, _, _, _, _, i, o, h, _ => by simp at h
  | o :: os, k, S, S2, hl, hx, i, o', ho', ha => by
    unfold xal at hx
    split at hx
    · rename_i d T hd hdk hop
      split at hx
      · rename_i u z z1 z2 hu hi
        split at hx
        · rename_i h3
          cases i with
          | zero =>
            obtain rfl : o = o' := by simpa using ho'
            have hlk : l[k]? = some o := by have := hl 0 (by simp); simpa using this.symm
            obtain ⟨od, oop, oty, opos, oaf, ogd⟩ := o
            simp only at hd hdk hop
            subst hd hop
            have hgd : ogd = none := by
              unfold isAl at ha
              split at ha
              · rename_i heq
                simp only [Oper.mk.injEq] at heq
                exact heq.2.2.2.2.2
              · cases ha
            subst hgd
            intro t L Q os' K
            have e1 : dstAt l (k + 0) = d := by unfold dstAt; rw [Nat.add_zero, hlk]; rfl
            have e2 : rowAl X l (k + 0) = ⟨T, true, z.cells.toList.map AV.p⟩ := by
              unfold rowAl
              rw [Nat.add_zero, hlk]
              simp only
              rw [hi]
            rw [e1, e2] at K
            exact R.alloc (okI_fnd hX.I hi) rfl (RVL.ones h3 (zcells_ok (fun _ => none) z)) (xdok_eq hdk) fun g hg => K g hg
          | succ i =>
            rw [show k + (i + 1) = k + 1 + i by omega]
            exact xal_step hX os (k + 1) _ S2 (fun j hj => by have := hl (j + 1) (by simpa using hj); rw [show k + 1 + j = k + (j + 1) by omega]; simpa using this) hx i o' (by simpa using ho') ha
        · cases hx
      · cases hx
    · cases hx
theorem xal_ok {X : Cx} {l : List Oper} {σ : Nat → Nat} : ∀ (os : List Oper) (k : Nat) (S S2 : XS) (ρ : Rho) (t : TM) (L : GH), (∀ i, i < os.length → os[i]? = l[k + i]?) → xal X N os S = some S2 → Rel F ρ S t L →
    (∀ i, i < os.length → L (σ (k + i)) = none) → (∀ i j, i < os.length → j < os.length → σ (k + i) = σ (k + j) → i = j) → ∃ ρ2, Rel F ρ2 S2 (finT (dstAt l) σ k os.length t) (finL (rowAl X l) σ k os.length L)
  | [], k, S, S2, ρ, t, L, _, hx, hR, _, _ => by
    obtain rfl := Option.some.inj hx
    exact ⟨ρ, hR⟩
  | o :: os, k, S, S2, ρ, t, L, hl, hx, hR, hf, hij => by
    unfold xal at hx
    split at hx
    · rename_i d T hd hdk hop
      split at hx
      · rename_i u z z1 z2 hu hi
        split at hx
        · rename_i h3
          have hlk : l[k]? = some o := by have := hl 0 (by simp); simpa using this.symm
          obtain ⟨od, oop, oty, opos, oaf, ogd⟩ := o
          simp only at hd hdk hop
          subst hd hop
          have e1 : dstAt l k = d := by unfold dstAt; rw [hlk]; rfl
          have e2 : rowAl X l k = ⟨T, true, z.cells.toList.map AV.p⟩ := by
            unfold rowAl
            rw [hlk]
            simp only
            rw [hi]
          have hg : L (σ k) = none := by simpa using hf 0 (by simp)
          have hR2 := Rel.put (Rel.new (r := .one T true (zcells z)) (row := ⟨T, true, z.cells.toList.map AV.p⟩) hR hg (by simp only [RRow]; exact ⟨trivial, trivial, zcells_ok _ z⟩)) (some d) (v := .ptr S.nx 0 0 0) (b := .ptr (σ k) 0) (by simp only [RV]; exact ⟨σ k, set_same _ _ _, by simp⟩)
          obtain ⟨ρ2, h2⟩ := xal_ok os (k + 1) _ S2 _ _ _ (fun j hj => by have := hl (j + 1) (by simpa using hj); rw [show k + 1 + j = k + (j + 1) by omega]; simpa using this) hx hR2 (fun i hi2 => by
              have hne : σ (k + 1 + i) ≠ σ k := fun e => by
                have := hij (i + 1) 0 (by simpa using hi2) (by simp) (by rw [show k + (i + 1) = k + 1 + i by omega, Nat.add_zero]; exact e)
                omega
              rw [upd_ne _ _ _ _ hne]
              have := hf (i + 1) (by simpa using hi2)
              rwa [show k + (i + 1) = k + 1 + i by omega] at this) (fun i j hi2 hj2 e => by
              have := hij (i + 1) (j + 1) (by simpa using hi2) (by simpa using hj2) (by rw [show k + (i + 1) = k + 1 + i by omega, show k + (j + 1) = k + 1 + j by omega]; exact e)
              omega)
          refine ⟨ρ2, ?_⟩
          rw [List.length_cons, finT, finL, e1, e2]
          exact h2
        · cases hx
      · cases hx
    · cases hx
end
end Go.Proofs.YthomfpdigmeheaaDoorAv
set_option linter.unusedVariables false
set_option linter.unusedSimpArgs false
namespace Go.Proofs.YthomfpdigmeheaaDoorAv
open Go Go.RowKit
theorem VM_eq {x y : XV} (h : VM x y) : x = y := by
  unfold VM at h
  split at h
  · split at h
    · rename_i hk; rw [kb_eq hk, h]
    · exact h.elim
  · rw [h]
  · rw [h]
  · exact h
theorem VML_eq : ∀ {l k : List XV}, VML l k → l = k
  | [], [], _ => rfl
  | x :: l, y :: k, h => by
    simp only [VML] at h
    rw [VM_eq h.1, VML_eq h.2]
  | [], _ :: _, h => by simp [VML] at h
  | _ :: _, [], h => by simp [VML] at h
def Rho.below (ρ : Rho) (n : Nat) : Rho := fun i => if i < n then ρ i else none
mutual
theorem RV.below {ρ : Rho} {n : Nat} : ∀ (x : XV) (b : AV), x.lt n = true → RV ρ x b → RV (ρ.below n) x b
  | .v a, b, _, k => by simpa [RV] using k
  | .sl i sz off m, b, hh, k => by
    simp only [XV.lt, bltN, decide_eq_true_eq] at hh
    simp only [RV] at k ⊢
    have e : (ρ.below n) i = ρ i := by unfold Rho.below; rw [if_pos hh]
    rw [e]; exact k
  | .ptr i sz j q, b, hh, k => by
    simp only [XV.lt, bltN, decide_eq_true_eq] at hh
    simp only [RV] at k ⊢
    have e : (ρ.below n) i = ρ i := by unfold Rho.below; rw [if_pos hh]
    rw [e]; exact k
  | .fz m sz f, b, _, k => by simpa [RV] using k
  | .fzc m sz f, b, _, k => by simpa [RV] using k
  | .fp cs, b, _, k => by simpa [RV] using k
  | .fsel cs j, b, _, k => by simpa [RV] using k
  | .agg cs, b, hh, k => by
    simp only [XV.lt] at hh
    simp only [RV] at k ⊢
    obtain ⟨bs, hb, hr⟩ := k
    exact ⟨bs, hb, RVL.below cs bs hh hr⟩
  | .tup cs, b, hh, k => by
    simp only [XV.lt] at hh
    simp only [RV] at k ⊢
    obtain ⟨bs, hb, hr⟩ := k
    exact ⟨bs, hb, RVL.below cs bs hh hr⟩
  | .gd c key x, b, hh, k => by
    simp only [XV.lt] at hh
    simp only [RV] at k ⊢
    exact ⟨fun hc => RV.below x b hh (k.1 hc), k.2⟩
  | .mref i, b, hh, k => by
    simp only [XV.lt, bltN, decide_eq_true_eq] at hh
    simp only [RV] at k ⊢
    have e : (ρ.below n) i = ρ i := by unfold Rho.below; rw [if_pos hh]
    rw [e]; exact k
  | .clo f i, b, hh, k => by
    simp only [XV.lt, bltN, decide_eq_true_eq] at hh
    simp only [RV] at k ⊢
    have e : (ρ.below n) i = ρ i := by unfold Rho.below; rw [if_pos hh]
    rw [e]; exact k
  | .top, b, _, _ => by simp [RV]
theorem RVL.below {ρ : Rho} {n : Nat} : ∀ (cs : List XV) (bs : List AV), ltL n cs = true → RVL ρ cs bs → RVL (ρ.below n) cs bs
  | [], [], _, _ => by simp [RVL]
  | c :: cs, b :: bs, hh, k => by
    simp only [ltL, Bool.and_eq_true] at hh
    simp only [RVL] at k ⊢
    exact ⟨RV.below c b hh.1 k.1, RVL.below cs bs hh.2 k.2⟩
  | [], _ :: _, _, k => by simp [RVL] at k
  | _ :: _, [], _, k => by simp [RVL] at k
end
theorem SMs_ok {S : XS} {n : Nat} : ∀ {l : List (Nat × XV)} {K : Prop}, SMs S l K → ltS n l = true → K ∧ ∀ i, look l i = .top ∨ (look S.s i = look l i ∧ (look l i).lt n = true)
  | [], K, h, _ => ⟨h, fun i => .inl rfl⟩
  | (d, v) :: l, K, h, hl => by
    obtain ⟨h1, h2⟩ := h
    simp only [ltS, Bool.and_eq_true] at hl
    obtain ⟨h3, h4⟩ := SMs_ok h2 hl.2
    refine ⟨h3, fun i => ?_⟩
    rw [look_put]
    by_cases hi : i = d
    · rw [if_pos hi, hi]; exact .inr ⟨VM_eq h1, hl.1⟩
    · rw [if_neg hi]; exact h4 i
def ltRow (n : Nat) : XRow → Bool
  | .one _ _ cs => ltL n cs
  | .vec .. => true
  | .vecU .. => true
  | .it .. => true
  | .mp _ => true
theorem SMh_ok {S : XS} {n : Nat} : ∀ {l : List (Nat × XRow)} {K : Prop}, SMh S l K → ltH n l = true → ∀ i r, findR l i = some r → i < n ∧ ltRow n r = true ∧ ∃ r', findR S.h i = some r' ∧ RM r' r
  | [], K, h, _, i, r, hf => by simp [findR] at hf
  | (d, q) :: l, K, h, hl, i, r, hf => by
    obtain ⟨h1, h2⟩ := h
    rw [findR_put] at hf
    have hl2 : d < n ∧ ltRow n q = true ∧ ltH n l = true := by
      cases q with
      | one e ap cs => simp only [ltH, Bool.and_eq_true, bltN, decide_eq_true_eq] at hl; exact ⟨hl.1, hl.2.1, hl.2.2⟩
      | vec e ap m sz f => simp only [ltH, Bool.and_eq_true, bltN, decide_eq_true_eq] at hl; exact ⟨hl.1, rfl, hl.2⟩
      | vecU e ap m sz i cs f => simp only [ltH, Bool.and_eq_true, bltN, decide_eq_true_eq] at hl; exact ⟨hl.1, rfl, hl.2⟩
      | it b p => simp only [ltH, Bool.and_eq_true, bltN, decide_eq_true_eq] at hl; exact ⟨hl.1, rfl, hl.2⟩
      | mp m => simp only [ltH, Bool.and_eq_true, bltN, decide_eq_true_eq] at hl; exact ⟨hl.1, rfl, hl.2⟩
    by_cases hi : i = d
    · rw [if_pos hi] at hf
      obtain rfl := Option.some.inj hf
      subst hi
      refine ⟨hl2.1, hl2.2.1, ?_⟩
      split at h1
      · rename_i r' hr'; exact ⟨r', hr', h1⟩
      · exact h1.elim
    · rw [if_neg hi] at hf
      exact SMh_ok h2 hl2.2.2 i r hf
theorem RM_row {ρ : Rho} {n : Nat} {r' r : XRow} {row : Row} (h : RM r' r) (hl : ltRow n r = true) (k : RRow ρ r' row) : RRow (ρ.below n) r row := by
  unfold RM at h
  split at h
  · obtain ⟨⟨rfl, rfl⟩, h⟩ := h
    simp only [RRow] at k ⊢
    rw [VML_eq h] at k
    exact ⟨k.1, k.2.1, RVL.below _ _ hl k.2.2⟩
  · obtain ⟨⟨rfl, rfl, rfl⟩, rfl, h⟩ := h
    simp only [RRow] at k ⊢
    rw [k]
    congr 1
    exact vecOf_congr fun j hj => by rw [h j hj]
  · obtain ⟨⟨rfl, rfl, rfl⟩, rfl, h⟩ := h
    simp only [RRow] at k ⊢
    rw [k]
    congr 1
    exact vecOf_congr fun j hj => by rw [h j hj]
  · obtain ⟨rfl, rfl⟩ := h
    simpa [RRow] using k
  · subst h
    simpa [RRow] using k
  · exact h.elim
theorem SMh_K {S : XS} : ∀ {l : List (Nat × XRow)} {K : Prop}, SMh S l K → K
  | [], K, h => h
  | (d, q) :: l, K, h => SMh_K h.2
theorem SMg_ok {ρ : Rho} {n : Nat} : ∀ {gs gs' : List XV} {tg : List AV}, SMg gs gs' True → ltL n gs' = true → RVL ρ gs tg → RVL (ρ.below n) gs' tg
  | [], [], tg, _, _, h => by
    cases tg with
    | nil => simp [RVL]
    | cons b bs => simp [RVL] at h
  | x :: l, y :: k, tg, hm, hl, h => by
    cases tg with
    | nil => simp [RVL] at h
    | cons b bs =>
      simp only [ltL, Bool.and_eq_true] at hl
      simp only [RVL] at h ⊢
      unfold SMg at hm
      split at hm
      · rename_i e1 e2; cases e1
      · rename_i e1 e2
        injection e1 with e1 e1'
        injection e2 with e2 e2'
        subst e1' e2 e2'
        exact ⟨by simp [RV], SMg_ok hm hl.2 h.2⟩
      · rename_i e1 e2
        injection e1 with e1 e1'
        injection e2 with e2 e2'
        subst e1 e1' e2 e2'
        have := VM_eq hm.1
        subst this
        exact ⟨RV.below _ _ hl.1 h.1, SMg_ok hm.2 hl.2 h.2⟩
      · exact hm.elim
  | [], y :: k, tg, hm, _, _ => by simp [SMg] at hm
  | x :: l, [], tg, hm, _, _ => by simp [SMg] at hm
section
variable {P : Program} {N : Nat} {ρ : Rho} {F : Fr} {S S' : XS} {t : TM} {L : GH}
/-- A state that is told anew. -/
theorem SM_ok {T : XS} (h : SM S T) (hR : Rel F ρ S t L) : Rel F (ρ.below T.nx) T t L := by
  obtain ⟨hs, h⟩ := h
  simp only [scopeB, Bool.and_eq_true] at hs
  obtain ⟨hh, hsl⟩ := SMs_ok h hs.1
  have hrw := SMh_ok hh hs.2.1
  have dom : ∀ i, (findR T.h i).isSome = true → i < T.nx ∧ (findR S.h i).isSome = true := by
    intro i hi
    cases hf : findR T.h i with
    | none => rw [hf] at hi; cases hi
    | some r =>
      obtain ⟨h1, _, r', h2, _⟩ := hrw i r hf
      exact ⟨h1, by rw [h2]; rfl⟩
  have hgs : RVL (ρ.below T.nx) T.gs F.tg := SMg_ok (SMh_K hh) hs.2.2.2.2.2 hR.gh
  refine ⟨fun i => ?_, fun i r hf => ?_, fun i j g hi hj e1 e2 => ?_, fun i hi => ?_, fun b r hb => ?_, fun hp => ?_, hgs⟩
  · rcases hsl i with h1 | ⟨h1, h2⟩
    · rw [h1]; simp [RV]
    · rw [← h1] at h2 ⊢
      exact RV.below _ _ h2 (hR.sl i)
  · obtain ⟨h1, h2, r', h3, h4⟩ := hrw i r hf
    have hb : (ρ.below T.nx) i = ρ i := by unfold Rho.below; rw [if_pos h1]
    rcases hR.rw i r' h3 with ⟨g, row, k1, k2, k3⟩ | ⟨k1, e, sz, f, rfl⟩
    · exact .inl ⟨g, row, by rw [hb]; exact k1, k2, RM_row h4 h2 k3⟩
    · refine .inr ⟨by rw [hb]; exact k1, ?_⟩
      unfold RM at h4
      split at h4
      · rename_i heq; cases heq
      · rename_i heq
        injection heq with q1 q2 q3 q4 q5
        subst q1 q2 q3 q4 q5
        obtain ⟨⟨rfl, rfl, rfl⟩, rfl, _⟩ := h4
        exact ⟨_, _, _, rfl⟩
      · rename_i heq; cases heq
      · rename_i heq; cases heq
      · rename_i heq; cases heq
      · exact h4.elim
  · obtain ⟨a1, a2⟩ := dom i hi
    obtain ⟨b1, b2⟩ := dom j hj
    unfold Rho.below at e1 e2
    rw [if_pos a1] at e1
    rw [if_pos b1] at e2
    exact hR.inj i j g a2 b2 e1 e2
  · unfold Rho.below
    rw [if_neg (by omega)]
  · obtain ⟨h1, h2⟩ := hR.fr b r hb
    refine ⟨h1, fun i hi => ?_⟩
    obtain ⟨a1, a2⟩ := dom i hi
    unfold Rho.below
    rw [if_pos a1]
    exact h2 i a2
  · obtain ⟨-, -, -, hpb, hpe, -⟩ := hs
    have hSp : S.pn = true := by
      unfold eqB at hpe
      split at hpe
      · rename_i h1 h2; exact h1
      · rename_i h1 h2; rw [hp] at h2; cases h2
      · cases hpe
    obtain ⟨p1, p2, p3⟩ := hR.pin hSp
    unfold pinB at hpb
    rw [hp] at hpb
    simp only at hpb
    split at hpb
    · rename_i e ap cs hf
      rw [bltN, decide_eq_true_eq] at hpb
      refine ⟨?_, hpb, e, ap, cs, hf⟩
      unfold Rho.below
      rw [if_pos hpb]
      exact p1
    · cases hpb
/-- A slot that holds a nil slice, told as a slice of one's own. -/
theorem xown_ok {d sz : Nat} {e : TypeId} (h : xown S d e sz = some S') (hR : Rel F ρ S t L) : ∃ ρ', Rel F ρ' S' t L := by
  unfold xown at h
  split at h
  · rename_i hl
    obtain rfl := Option.some.inj h
    have h1 := Rel.newN hR e sz fun _ => []
    have hs := hR.sl d
    rw [hl] at hs
    simp only [RV] at hs
    refine ⟨ρ.set S.nx none, ⟨fun i => ?_, h1.rw, h1.inj, h1.nx, h1.fr, h1.pin, h1.gh⟩⟩
    show RV _ (look ((d, .sl S.nx sz 0 0) :: S.s) i) _
    rw [look_put]
    split
    · rename_i hi
      subst hi
      simp only [RV]
      exact .inr ⟨set_same _ _ _, trivial, trivial, hs⟩
    · exact h1.sl i
  · rename_i v hl
    split at h
    · rename_i e' ap hq
      obtain rfl := Option.some.inj h
      have h1 := Rel.newN hR e sz fun _ => []
      have hs := hR.sl d
      rw [hl] at hs
      simp only [RV] at hs
      obtain ⟨g, hg, -⟩ := hs
      have hvn : v ≠ S.nx := by
        rintro rfl
        rw [hR.nx _ (Nat.le_refl _)] at hg
        cases hg
      have hfv : findR ((S.nx, XRow.vec e true 0 sz fun _ => []) :: S.h) v = some (.one e' ap [.v (.p (.slice none 0 0))]) := by
        rw [findR_put, if_neg hvn]; exact hq
      obtain ⟨row, hL, hrow⟩ := (hR.rw v _ hq).some_g hg
      have hrow' := hrow
      simp only [RRow] at hrow'
      obtain ⟨q1, q2, q3⟩ := hrow'
      have h2 := Rel.wr h1 (id := v) (g := g) (r := .one e' ap [.sl S.nx sz 0 0]) (row := row) (by show (findR ((S.nx, _) :: S.h) v).isSome = true; rw [hfv]; rfl) (by rw [set_ne _ _ hvn]; exact hg) (by
        simp only [RRow]
        refine ⟨q1, q2, ?_⟩
        obtain ⟨re, rap, rcs⟩ := row
        cases rcs with
        | nil => simp [RVL] at q3
        | cons c l =>
          simp only [RVL] at q3 ⊢
          refine ⟨?_, by
            have q5 := q3.2
            cases l with
            | nil => simp [RVL]
            | cons _ _ => simp [RVL] at q5⟩
          have q4 := q3.1
          simp only [RV] at q4 ⊢
          exact .inr ⟨set_same _ _ _, trivial, trivial, q4⟩) (fun _ _ _ _ => ⟨_, _, _, rfl⟩)
      have hu : upd L g row = L := by
        funext b
        simp only [upd]
        split
        · rename_i hb; rw [hb, hL]
        · rfl
      rw [hu] at h2
      exact ⟨_, h2⟩
    · cases h
  · cases h
theorem J.retell {P : Program} {N : Nat} {c : Code} {Q : Exit → TM → GH → Prop} {t t' : TM} {L L' : GH} (hd : ∀ b, L b = none → L' b = none)
    (hv : ∀ w, (∀ g r, L g = some r → RowR L w g r) → (∀ g r, L' g = some r → RowR L' w g r) ∧ ∀ i x, VS L w (t i) x → VS L' w (t' i) x) (h : J P N c Q t' L') : J P N c Q t L := by
  intro L0 w0 a w he hs
  have hx := Ext.drop w hd
  obtain ⟨h1, h2⟩ := hv w hs.rows
  exact h L0 w0 a w (he.trans hx) ⟨fun i => h2 i _ (hs.tm i), h1, hs.size, hs.df.1, hs.df.2.ext hx⟩
/-- A slice of one's own that is only read from now on. -/
theorem xfrz_ok {c : Code} {Q : Exit → TM → GH → Prop} {d : Nat} {cs : List Prop} (h : xfrz S d = some (cs, S')) (hc : ∀ p ∈ cs, p) (hR : Rel F ρ S t L) (K : ∀ ρ' t' L', Rel F ρ' S' t' L' → J P N c Q t' L') : J P N c Q t L := by
  unfold xfrz at h
  split at h
  · rename_i id sz n hl
    split at h
    · rename_i e n' sz' f hq
      split at h
      · rename_i hs
        rw [beqN, decide_eq_true_eq] at hs
        subst hs
        simp only [Option.some.injEq, Prod.mk.injEq] at h
        obtain ⟨rfl, rfl⟩ := h
        have hn : n = n' := all1 hc
        subst hn
        have hsl := hR.sl d
        rw [hl] at hsl
        simp only [RV] at hsl
        have hlt : ∀ o, ρ id = some o → id < S.nx := by
          intro o ho
          rcases Nat.lt_or_ge id S.nx with h | h
          · exact h
          · rw [hR.nx id h] at ho; cases ho
        have go : ∀ (L0 : GH) (og : Option Nat) (row : Row), L = updo L0 og row → row.cs = vecOf n sz (fun i => toAVL (f i)) → Fre L0 og → ρ id = some og → t d = hv og sz n → (og = none → row.cs = [] ∧ n = 0) → J P N c Q t L := by
          intro L0 og row hL hcs hF hid ht hnil
          subst hL
          refine J.freeze d hF ht hnil (by rw [hcs, vecOf_length]) ?_
          rw [hcs]
          -- what is left is told of no block that is this one
          have fi : ∀ i, findR (dropH id (delR S.h id)) i = if i = id then none else (findR S.h i).map (dropRow id) := by
            intro i
            rw [findR_drop, findR_del]
            by_cases hi : i = id
            · rw [if_pos hi, if_pos hi]; rfl
            · rw [if_neg hi, if_neg hi]
          have old : ∀ i g row', i ≠ id → (findR S.h i).isSome = true → ρ i = some (some g) → updo L0 og row g = some row' → L0 g = some row' := by
            intro i g row' hi hs e1 e2
            cases og with
            | none => exact e2
            | some g0 =>
              have hne : g ≠ g0 := by
                rintro rfl
                exact hi (hR.inj i id _ hs (by rw [hq]; rfl) e1 hid)
              simpa [updo, upd_ne _ _ _ _ hne] using e2
          refine K (ρ.set id none) _ _ ⟨fun i => ?_, fun i q hf => ?_, fun i j g hi hj e1 e2 => ?_, fun i hi => ?_, fun b q hb => ?_, fun hp => ?_, dropC_ok hR.gh⟩
          · show RV _ (look ((d, .fz n sz f) :: dropS id S.s) i) _
            rw [look_put]
            by_cases hi : i = d
            · rw [if_pos hi, hi, TM.put_same]
              simp only [RV, toAV]
            · rw [if_neg hi, TM.put_ne _ _ _ _ hi, look_drop]
              exact RV.drop (hR.sl i)
          · simp only at hf
            rw [fi] at hf
            by_cases hi : i = id
            · rw [if_pos hi] at hf; cases hf
            · rw [if_neg hi] at hf
              cases hf2 : findR S.h i with
              | none => rw [hf2] at hf; cases hf
              | some p =>
                rw [hf2] at hf
                obtain rfl := Option.some.inj hf
                rcases hR.rw i p hf2 with ⟨g', row', h1, h2, h3⟩ | ⟨h1, e, sz, f, rfl⟩
                · exact .inl ⟨g', row', by rw [set_ne _ _ hi]; exact h1, old i g' row' hi (by rw [hf2]; rfl) h1 h2, h3.drop⟩
                · exact .inr ⟨by rw [set_ne _ _ hi]; exact h1, e, sz, f, rfl⟩
          · simp only at hi hj
            rw [fi] at hi hj
            by_cases a1 : i = id
            · rw [if_pos a1] at hi; cases hi
            · by_cases a2 : j = id
              · rw [if_pos a2] at hj; cases hj
              · rw [if_neg a1] at hi
                rw [if_neg a2] at hj
                rw [set_ne _ _ a1] at e1
                rw [set_ne _ _ a2] at e2
                exact hR.inj i j g (by simpa using hi) (by simpa using hj) e1 e2
          · simp only at hi
            have := hlt og hid
            rw [set_ne _ _ (by omega)]
            exact hR.nx i hi
          · obtain ⟨h1, h2⟩ := hR.fr b q hb
            have h3 : L0 b = some q := by
              cases og with
              | none => exact h1
              | some g0 =>
                have hne : b ≠ g0 := by rintro rfl; exact h2 id (by rw [hq]; rfl) hid
                simpa [updo, upd_ne _ _ _ _ hne] using h1
            refine ⟨h3, fun i hi => ?_⟩
            simp only at hi
            rw [fi] at hi
            by_cases a1 : i = id
            · rw [if_pos a1] at hi; cases hi
            · rw [if_neg a1] at hi
              rw [set_ne _ _ a1]
              exact h2 i (by simpa using hi)
          · obtain ⟨p1, p2, e', ap', cs', p3⟩ := hR.pin hp
            have hne : 0 ≠ id := by
              rintro rfl
              rw [hq] at p3; cases p3
            refine ⟨by rw [set_ne _ _ hne]; exact p1, p2, e', ap', dropC id cs', ?_⟩
            show findR (dropH id (delR S.h id)) 0 = _
            rw [fi, if_neg hne, p3]
            rfl
        rcases hsl with ⟨g0, hid, ht⟩ | ⟨hid, hn0, -, ht⟩
        · obtain ⟨row, hL, hrow⟩ := (hR.rw id _ hq).some_g hid
          simp only [RRow] at hrow
          refine go (del L g0) (some g0) row ?_ (by rw [hrow]) (fun g' h => by obtain rfl := Option.some.inj h; simp [del]) hid (by rw [ht]; simp [hv]) (fun h => by cases h)
          funext b'
          simp only [updo, upd, del]
          split
          · rename_i hb'; rw [hb', hL]
          · rfl
        · exact go L none ⟨0, true, vecOf n sz fun i => toAVL (f i)⟩ rfl rfl (fun g' h => by cases h) hid (by rw [ht]; rfl) (fun _ => ⟨by rw [hn0]; simp [vecOf], hn0⟩)
      · cases h
    · cases h
  · rename_i hl
    simp only [Option.some.injEq, Prod.mk.injEq] at h
    obtain ⟨-, rfl⟩ := h
    have hsl := hR.sl d
    rw [hl] at hsl
    simp only [RV] at hsl
    refine J.retell (t' := t.putO (some d) (.fz 0 (vecOf 0 1 fun _ => toAVL [.v (.p (.string ⟨#[]⟩))]))) (L' := L) (fun b hb => hb) (fun w hw => ⟨hw, fun i x hx => ?_⟩) (K ρ _ L (Rel.put hR (some d) (by simp only [RV, toAV])))
    show VS L w ((t.put d (.fz 0 (vecOf 0 1 fun _ => toAVL [.v (.p (.string ⟨#[]⟩))]))) i) x
    unfold TM.put
    split
    · rename_i hi
      rw [hi, hsl] at hx
      simp only [VS] at hx ⊢
      subst hx
      exact ⟨none, 0, [], rfl, Nat.le_refl _, .inl rfl, by simp [vecOf, VSL]⟩
    · exact hx
  · simp only [Option.some.injEq, Prod.mk.injEq] at h
    obtain ⟨-, rfl⟩ := h
    exact K ρ t L hR
  · cases h
/-- A slice of one's own, in a cell of a variable, that is only read from now on. -/
theorem xfrzc_ok {c : Code} {Q : Exit → TM → GH → Prop} {d o : Nat} {cs : List Prop} (h : xfrzc S d o = some (cs, S')) (hc : ∀ p ∈ cs, p) (hR : Rel F ρ S t L) (K : ∀ ρ' t' L', Rel F ρ' S' t' L' → J P N c Q t' L') : J P N c Q t L := by
  unfold xfrzc at h
  split at h
  · rename_i v hl
    split at h
    · rename_i e ap cells hv
      split at h
      · rename_i id sz n hcell
        split at h
        · rename_i e2 n' sz' f hq
          split at h
          · rename_i hs
            rw [beqN, decide_eq_true_eq] at hs
            subst hs
            simp only [Option.some.injEq, Prod.mk.injEq] at h
            obtain ⟨rfl, rfl⟩ := h
            have hn : n = n' := all1 hc
            subst hn
            have hvid : v ≠ id := by rintro rfl; rw [hv] at hq; cases hq
            have hsl := hR.sl d
            rw [hl] at hsl
            simp only [RV] at hsl
            obtain ⟨gv, hgv, -⟩ := hsl
            obtain ⟨row, hL, he, hap, hcs⟩ := (hR.rw v _ hv).some_g hgv
            have hlen := hcs.length
            have ho : o < cells.length := by
              rcases Nat.lt_or_ge o cells.length with h | h
              · exact h
              · rw [xget_eq, List.getD_eq_getElem?_getD, List.getElem?_eq_none h] at hcell
                cases hcell
            obtain ⟨b, hb1, hb2⟩ := hcs.get o ho
            rw [← xget_eq, hcell] at hb2
            have hlt : ∀ q, ρ id = some q → id < S.nx := by
              intro q hq
              rcases Nat.lt_or_ge id S.nx with h | h
              · exact h
              · rw [hR.nx id h] at hq; cases hq
            have go : ∀ (L0 : GH) (og : Option Nat) (r : Row), L = updo L0 og r → r.cs = vecOf n sz (fun i => toAVL (f i)) → Fre L0 og → ρ id = some og → b = YthomfpdigmeheaaDoorAv.hv og sz n → (og = none → r.cs = [] ∧ n = 0) → J P N c Q t L := by
              intro L0 og r hLL hrcs hF hid hb hnil
              subst hLL
              have hne0 : og ≠ some gv := by
                intro h
                rw [h] at hid
                exact hvid (hR.inj v id gv (by rw [hv]; rfl) (by rw [hq]; rfl) hgv hid)
              have hL0 : L0 gv = some row := by
                cases og with
                | none => exact hL
                | some g0 =>
                  have : gv ≠ g0 := by rintro rfl; exact hne0 rfl
                  simpa [updo, upd_ne _ _ _ _ this] using hL
              have hd0 : ∀ b, updo L0 og r b = none → L0 b = none := fun b hb => (updo_none hb).2
              have hd : ∀ b, updo L0 og r b = none → upd L0 gv ⟨row.e, row.ap, row.cs.take o ++ ([.fz n r.cs] ++ row.cs.drop (o + 1))⟩ b = none := by
                intro b hb
                have := hd0 b hb
                rw [upd_ne]
                · exact this
                · rintro rfl; rw [hL0] at this; cases this
              refine J.retell (t' := t) (L' := upd L0 gv ⟨row.e, row.ap, row.cs.take o ++ ([.fz n r.cs] ++ row.cs.drop (o + 1))⟩) hd (fun w hrows => ⟨fun g q hg => ?_, fun i x hx => VS.ext (Ext.drop w hd) _ _ hx⟩) ?_
              · by_cases hgg : g = gv
                · subst hgg
                  rw [upd_same] at hg
                  obtain rfl := Option.some.inj hg
                  obtain ⟨c', fr, vs, k1, k2, k3, k4, k5, k6, k7⟩ := (hrows g row hL).cg hb1
                  have hll := k6.length
                  have hvo : ∃ x, vs[o]? = some x ∧ VS (updo L0 og r) w b x := by
                    obtain ⟨x, hx1, hx2⟩ := k6.get o b hb1
                    exact ⟨x, hx1, hx2⟩
                  obtain ⟨x, hx1, hx2⟩ := hvo
                  rw [hb] at hx2
                  have hfz := freeze_VS (sz := sz) hF hrows hnil (by rw [hrcs, vecOf_length]) hx2
                  have hol : o < vs.length := by rw [← hll, ← hlen]; exact ho
                  have hvs : vs = vs.take o ++ ([x] ++ vs.drop (o + 1)) := by
                    have : vs.drop o = x :: vs.drop (o + 1) := by
                      rw [List.drop_eq_getElem_cons hol]
                      rw [List.getElem?_eq_getElem hol] at hx1
                      rw [Option.some.inj hx1]
                    rw [List.singleton_append, ← this, List.take_append_drop]
                  have hx0 : VSL (upd L0 g ⟨row.e, row.ap, row.cs.take o ++ ([.fz n r.cs] ++ row.cs.drop (o + 1))⟩) w (row.cs.take o ++ ([.fz n r.cs] ++ row.cs.drop (o + 1))) vs := by
                    rw [hvs]
                    refine VSL.append (VSL.ext (Ext.drop w hd) _ _ (k6.take o)) (VSL.append ?_ (VSL.ext (Ext.drop w hd) _ _ (k6.drop (o + 1))))
                    simp only [VSL]
                    refine ⟨VS.ext (Ext.drop w fun b hb => ?_) _ _ hfz, trivial⟩
                    rw [upd_ne]
                    · exact hb
                    · rintro rfl; rw [hL0] at hb; cases hb
                  have hlen2 : (row.cs.take o ++ ([AV.fz n r.cs] ++ row.cs.drop (o + 1))).length = row.cs.length := by
                    have : o < row.cs.length := by omega
                    simp; omega
                  refine RowC.r ?_ (show Row.isc ⟨row.e, row.ap, _⟩ from (hrows g row hL).ci hb1)
                  exact ⟨c', fr, vs, k1, k2, k3, by simp only; omega, by simp only; rw [hlen2]; exact k5, hx0, k7⟩
                · rw [upd_ne _ _ _ _ hgg] at hg
                  have hg2 : updo L0 og r g = some q := by
                    cases og with
                    | none => exact hg
                    | some g0 =>
                      have : g ≠ g0 := by rintro rfl; rw [hF g rfl] at hg; cases hg
                      simpa [updo, upd_ne _ _ _ _ this] using hg
                  exact (hrows g q hg2).ext (Ext.drop w hd) rfl
              · have fi : ∀ i, findR ((v, .one e ap (xsplice (dropC id cells) [.fz n sz f] o)) :: dropH id (delR (delR S.h v) id)) i = if i = v then some (.one e ap (xsplice (dropC id cells) [.fz n sz f] o)) else if i = id then none else (findR S.h i).map (dropRow id) := by
                  intro i
                  rw [findR_put, findR_drop, findR_del, findR_del]
                  by_cases hi : i = v
                  · rw [if_pos hi, if_pos hi]
                  · rw [if_neg hi, if_neg hi]
                    by_cases hj : i = id
                    · rw [if_pos hj, if_neg hi, if_pos hj]; rfl
                    · rw [if_neg hj, if_neg hi, if_neg hj]
                have old : ∀ i g row', i ≠ id → (findR S.h i).isSome = true → ρ i = some (some g) → updo L0 og r g = some row' → L0 g = some row' := by
                  intro i g row' hi hs e1 e2
                  cases og with
                  | none => exact e2
                  | some g0 =>
                    have hne : g ≠ g0 := by
                      rintro rfl
                      exact hi (hR.inj i id _ hs (by rw [hq]; rfl) e1 hid)
                    simpa [updo, upd_ne _ _ _ _ hne] using e2
                have ss : ∀ i, (findR ((v, .one e ap (xsplice (dropC id cells) [.fz n sz f] o)) :: dropH id (delR (delR S.h v) id)) i).isSome = true → i ≠ id ∧ (findR S.h i).isSome = true := by
                  intro i hi
                  rw [fi] at hi
                  by_cases a1 : i = v
                  · rw [a1]; exact ⟨hvid, by rw [hv]; rfl⟩
                  · rw [if_neg a1] at hi
                    by_cases a2 : i = id
                    · rw [if_pos a2] at hi; cases hi
                    · rw [if_neg a2] at hi
                      exact ⟨a2, by simpa using hi⟩
                refine K (ρ.set id none) _ _ ⟨fun i => ?_, fun i q hf => ?_, fun i j g hi hj e1 e2 => ?_, fun i hi => ?_, fun b q hb => ?_, fun hp => ?_, dropC_ok hR.gh⟩
                · show RV _ (look (dropS id S.s) i) _
                  rw [look_drop]
                  exact RV.drop (hR.sl i)
                · simp only at hf
                  rw [fi] at hf
                  by_cases hi : i = v
                  · rw [if_pos hi] at hf
                    obtain rfl := Option.some.inj hf
                    subst hi
                    refine .inl ⟨gv, _, by rw [set_ne _ _ hvid]; exact hgv, upd_same _ _ _, he, hap, ?_⟩
                    rw [xsplice_eq]
                    have hdc : RVL (ρ.set id none) (dropC id cells) row.cs := dropC_ok hcs
                    refine RVL.append (hdc.take o) (RVL.append ?_ (hdc.drop _))
                    simp only [RVL, RV, toAV, and_true]
                    rw [hrcs]
                  · rw [if_neg hi] at hf
                    by_cases hj : i = id
                    · rw [if_pos hj] at hf; cases hf
                    · rw [if_neg hj] at hf
                      cases hf2 : findR S.h i with
                      | none => rw [hf2] at hf; cases hf
                      | some p =>
                        rw [hf2] at hf
                        obtain rfl := Option.some.inj hf
                        rcases hR.rw i p hf2 with ⟨g', row', h1, h2, h3⟩ | ⟨h1, e, sz, f, rfl⟩
                        · refine .inl ⟨g', row', by rw [set_ne _ _ hj]; exact h1, ?_, h3.drop⟩
                          rw [upd_ne]
                          · exact old i g' row' hj (by rw [hf2]; rfl) h1 h2
                          · rintro rfl
                            exact hi (hR.inj i v _ (by rw [hf2]; rfl) (by rw [hv]; rfl) h1 hgv)
                        · exact .inr ⟨by rw [set_ne _ _ hj]; exact h1, e, sz, f, rfl⟩
                · obtain ⟨a1, a2⟩ := ss i hi
                  obtain ⟨b1, b2⟩ := ss j hj
                  rw [set_ne _ _ a1] at e1
                  rw [set_ne _ _ b1] at e2
                  exact hR.inj i j g a2 b2 e1 e2
                · have := hlt og hid
                  simp only at hi
                  rw [set_ne _ _ (by omega)]
                  exact hR.nx i hi
                · obtain ⟨h1, h2⟩ := hR.fr b q hb
                  have hbv : b ≠ gv := by rintro rfl; exact h2 v (by rw [hv]; rfl) hgv
                  have h3 : L0 b = some q := by
                    cases og with
                    | none => exact h1
                    | some g0 =>
                      have hne : b ≠ g0 := by rintro rfl; exact h2 id (by rw [hq]; rfl) hid
                      simpa [updo, upd_ne _ _ _ _ hne] using h1
                  refine ⟨by rw [upd_ne _ _ _ _ hbv]; exact h3, fun i hi => ?_⟩
                  obtain ⟨a1, a2⟩ := ss i hi
                  rw [set_ne _ _ a1]
                  exact h2 i a2
                · obtain ⟨p1, p2, e', ap', cs', p3⟩ := hR.pin hp
                  have hne : 0 ≠ id := by
                    rintro rfl
                    rw [hq] at p3; cases p3
                  refine ⟨by rw [set_ne _ _ hne]; exact p1, p2, ?_⟩
                  show ∃ e ap cs, findR _ 0 = _
                  rw [fi]
                  by_cases h0 : 0 = v
                  · rw [if_pos h0]; exact ⟨_, _, _, rfl⟩
                  · rw [if_neg h0, if_neg hne, p3]; exact ⟨_, _, _, rfl⟩
            simp only [RV] at hb2
            rcases hb2 with ⟨g0, hid, ht⟩ | ⟨hid, hn0, -, ht⟩
            · obtain ⟨row', hL', hrow⟩ := (hR.rw id _ hq).some_g hid
              simp only [RRow] at hrow
              refine go (del L g0) (some g0) row' ?_ (by rw [hrow]) (fun g' h => by obtain rfl := Option.some.inj h; simp [del]) hid (by rw [ht]; simp [YthomfpdigmeheaaDoorAv.hv]) (fun h => by cases h)
              funext b'
              simp only [updo, upd, del]
              split
              · rename_i hb'; rw [hb', hL']
              · rfl
            · exact go L none ⟨0, true, vecOf n sz fun i => toAVL (f i)⟩ rfl rfl (fun g' h => by cases h) hid (by rw [ht]; rfl) (fun _ => ⟨by rw [hn0]; simp [vecOf], hn0⟩)
          · cases h
        · cases h
      · simp only [Option.some.injEq, Prod.mk.injEq] at h
        obtain ⟨rfl, rfl⟩ := h
        exact K ρ t L hR
      · cases h
    · cases h
  · cases h
theorem pre0_ok {c : Code} {Q : Exit → TM → GH → Prop} : ∀ (sc : Sc) (S : XS) (cs : List Prop) (S' : XS) (sc' : Sc) (ρ : Rho) (t : TM) (L : GH), pre0 sc S = some (cs, S', sc') → (∀ p ∈ cs, p) → Rel F ρ S t L → (∀ ρ' t' L', Rel F ρ' S' t' L' → J P N c Q t' L') → J P N c Q t L
  | .own d e sz k, S, cs, S', sc', ρ, t, L, h, hc, hR, K => by
    simp only [pre0] at h
    split at h
    · rename_i S1 h1
      obtain ⟨ρ', hR'⟩ := xown_ok h1 hR
      exact pre0_ok k S1 cs S' sc' ρ' t L h hc hR' K
    · cases h
  | .frz d k, S, cs, S', sc', ρ, t, L, h, hc, hR, K => by
    simp only [pre0] at h
    split at h
    · rename_i cs1 S1 h1
      split at h
      · rename_i ds r h2
        simp only [Option.some.injEq, Prod.mk.injEq] at h
        obtain ⟨rfl, rfl⟩ := h
        exact xfrz_ok h1 (allL hc) hR fun ρ' t' L' hR' => pre0_ok k S1 ds S' sc' ρ' t' L' h2 (allR hc) hR' K
      · cases h
    · cases h
  | .frzc d o k, S, cs, S', sc', ρ, t, L, h, hc, hR, K => by
    simp only [pre0] at h
    split at h
    · rename_i cs1 S1 h1
      split at h
      · rename_i ds r h2
        simp only [Option.some.injEq, Prod.mk.injEq] at h
        obtain ⟨rfl, rfl⟩ := h
        exact xfrzc_ok h1 (allL hc) hR fun ρ' t' L' hR' => pre0_ok k S1 ds S' sc' ρ' t' L' h2 (allR hc) hR' K
      · cases h
    · cases h
  | .casb .., S, cs, S', sc', ρ, t, L, h, hc, hR, K => by simp only [pre0, Option.some.injEq, Prod.mk.injEq] at h; obtain ⟨-, rfl, -⟩ := h; exact K ρ t L hR
  | .fk _, S, cs, S', sc', ρ, t, L, h, hc, hR, K => by simp only [pre0, Option.some.injEq, Prod.mk.injEq] at h; obtain ⟨-, rfl, -⟩ := h; exact K ρ t L hR
  | .nil, S, cs, S', sc', ρ, t, L, h, hc, hR, K => by simp only [pre0, Option.some.injEq, Prod.mk.injEq] at h; obtain ⟨-, rfl, -⟩ := h; exact K ρ t L hR
  | .seq _ _, S, cs, S', sc', ρ, t, L, h, hc, hR, K => by simp only [pre0, Option.some.injEq, Prod.mk.injEq] at h; obtain ⟨-, rfl, -⟩ := h; exact K ρ t L hR
  | .cut _ _ _, S, cs, S', sc', ρ, t, L, h, hc, hR, K => by simp only [pre0, Option.some.injEq, Prod.mk.injEq] at h; obtain ⟨-, rfl, -⟩ := h; exact K ρ t L hR
  | .cond _ _, S, cs, S', sc', ρ, t, L, h, hc, hR, K => by simp only [pre0, Option.some.injEq, Prod.mk.injEq] at h; obtain ⟨-, rfl, -⟩ := h; exact K ρ t L hR
  | .T _, S, cs, S', sc', ρ, t, L, h, hc, hR, K => by simp only [pre0, Option.some.injEq, Prod.mk.injEq] at h; obtain ⟨-, rfl, -⟩ := h; exact K ρ t L hR
  | .F _, S, cs, S', sc', ρ, t, L, h, hc, hR, K => by simp only [pre0, Option.some.injEq, Prod.mk.injEq] at h; obtain ⟨-, rfl, -⟩ := h; exact K ρ t L hR
  | .blk _, S, cs, S', sc', ρ, t, L, h, hc, hR, K => by simp only [pre0, Option.some.injEq, Prod.mk.injEq] at h; obtain ⟨-, rfl, -⟩ := h; exact K ρ t L hR
  | .loop _ _, S, cs, S', sc', ρ, t, L, h, hc, hR, K => by simp only [pre0, Option.some.injEq, Prod.mk.injEq] at h; obtain ⟨-, rfl, -⟩ := h; exact K ρ t L hR
  | .roll _ _, S, cs, S', sc', ρ, t, L, h, hc, hR, K => by simp only [pre0, Option.some.injEq, Prod.mk.injEq] at h; obtain ⟨-, rfl, -⟩ := h; exact K ρ t L hR
  | .loopP _ _, S, cs, S', sc', ρ, t, L, h, hc, hR, K => by simp only [pre0, Option.some.injEq, Prod.mk.injEq] at h; obtain ⟨-, rfl, -⟩ := h; exact K ρ t L hR
  | .cas _ _ _, S, cs, S', sc', ρ, t, L, h, hc, hR, K => by simp only [pre0, Option.some.injEq, Prod.mk.injEq] at h; obtain ⟨-, rfl, -⟩ := h; exact K ρ t L hR
  | .D _ _, S, cs, S', sc', ρ, t, L, h, hc, hR, K => by simp only [pre0, Option.some.injEq, Prod.mk.injEq] at h; obtain ⟨-, rfl, -⟩ := h; exact K ρ t L hR
theorem pre_ok {c : Code} {Q : Exit → TM → GH → Prop} (sc : Sc) (S : XS) (cs : List Prop) (S' : XS) (sc' : Sc) (ρ : Rho) (t : TM) (L : GH) (h : pre sc S = some (cs, S', sc')) (hc : ∀ p ∈ cs, p) (hR : Rel F ρ S t L) (K : ∀ ρ' t' L', Rel F ρ' S' t' L' → J P N c Q t' L') : J P N c Q t L := by
  unfold pre at h
  split at h
  · exact pre0_ok sc S.pl cs S' sc' ρ t L h hc hR.pl K
  · simp only [Option.some.injEq, Prod.mk.injEq] at h
    obtain ⟨-, rfl, -⟩ := h
    exact K ρ t L hR
theorem casP_of {v : Int} {f : Int → Prop} : ∀ {l : List Int}, casD v l → casP v f l → f v
  | [], h, _ => h.elim
  | c :: l, h, k => by
    rcases h with h | h
    · subst h; exact k.1 rfl
    · exact casP_of h k.2
theorem xcas_ok {c : Code} {Q : Exit → TM → GH → Prop} {f : XS → Sc → Prop} {ρ : Rho} {t : TM} {L : GH} : ∀ (sc : Sc) (S : XS), xcas f sc S → Rel F ρ S t L → (∀ S' sc', f S' sc' → Rel F ρ S' t L → J P N c Q t L) → J P N c Q t L
  | .cas d l k, S, h, hR, K => by
    simp only [xcas] at h
    split at h
    · rename_i kk v hl
      have h2 := casP_of h.1 h.2
      refine xcas_ok k _ h2 ⟨fun i => ?_, hR.rw, hR.inj, hR.nx, hR.fr, hR.pin, hR.gh⟩ K
      show RV _ (look ((d, .v (.p (.int kk v))) :: S.s) i) _
      rw [look_put]
      split
      · rename_i hi
        have := hR.sl d
        rw [hl] at this
        rw [hi]
        exact this
      · exact hR.sl i
    · exact h.elim
  | .casb d k, S, h, hR, K => by
    simp only [xcas] at h
    split at h
    · rename_i v hl
      have put' : ∀ c', v = c' → Rel F ρ { S with s := (d, .v (.p (.bool c'))) :: S.s } t L := by
        rintro c' rfl
        refine ⟨fun i => ?_, hR.rw, hR.inj, hR.nx, hR.fr, hR.pin, hR.gh⟩
        show RV _ (look ((d, .v (.p (.bool v))) :: S.s) i) _
        rw [look_put]
        split
        · rename_i hi
          have := hR.sl d
          rw [hl] at this
          rw [hi]
          exact this
        · exact hR.sl i
      cases v with
      | true => exact xcas_ok k _ (h.1 rfl) (put' _ rfl) K
      | false => exact xcas_ok k _ (h.2 rfl) (put' _ rfl) K
    · exact h.elim
  | .nil, S, h, hR, K => K _ _ h hR
  | .seq .., S, h, hR, K => K _ _ h hR
  | .cut .., S, h, hR, K => K _ _ h hR
  | .cond .., S, h, hR, K => K _ _ h hR
  | .T .., S, h, hR, K => K _ _ h hR
  | .F .., S, h, hR, K => K _ _ h hR
  | .blk .., S, h, hR, K => K _ _ h hR
  | .loop .., S, h, hR, K => K _ _ h hR
  | .roll .., S, h, hR, K => K _ _ h hR
  | .loopP .., S, h, hR, K => K _ _ h hR
  | .D .., S, h, hR, K => K _ _ h hR
  | .fk .., S, h, hR, K => K _ _ h hR
  | .frzc .., S, h, hR, K => K _ _ h hR
  | .own .., S, h, hR, K => K _ _ h hR
  | .frz .., S, h, hR, K => K _ _ h hR
theorem JN.mono {ops : Array Oper} {tb : Nat → Nat} : ∀ {l : List Oper} {ann : List (List Nat × Option Nat)} {t : TM} {L : GH} {K K' : TM → GH → Prop}, JN P N ops tb l ann t L K → (∀ t L, K t L → K' t L) → JN P N ops tb l ann t L K'
  | [], _, t, L, K, K', h, hk => hk t L h
  | o :: os, ann, t, L, K, K', ⟨v, W, h1, h2, h3⟩, hk => ⟨v, W, h1, h2, JN.mono h3 hk⟩
/-- What is told behind a piece of code. -/
def QX (F : Fr) (Q : Exit → XS → Prop) : Exit → TM → GH → Prop := fun e t L => ∃ ρ S, Rel F ρ S t L ∧ Q e S
theorem xwp_ok {X : Cx} (hX : X.ok P) : ∀ (c : Code) (sc : Sc) (S : XS) (Q : Exit → XS → Prop) (ρ : Rho) (t : TM) (L : GH), xwp X N c sc S Q → Rel F ρ S t L → J P N c (QX F Q) t L
  | .skip, sc, S, Q, ρ, t, L, h, hR => J.skip ⟨ρ, S, hR, by simpa [xwp] using h⟩
  | .region id ops draw, sc, S, Q, ρ, t, L, h, hR => by
    simp only [xwp] at h
    have e : ops = ops.toList.toArray := by simp
    refine xcas_ok _ _ h hR fun S _ h hR => ?_
    split at h
    · rw [e]
      refine J.region ?_
      split at h
      · exact xgf_ok (N := N) (ops := ops.toList.toArray) (Q := QX F Q) hX ops.toList S [] _ ρ t L (by simpa using h) hR (DA.nil _) (fun ρ' S' t' L' hR' hq => ⟨ρ', S', hR', hq⟩)
      have := xgo_ok (N := N) (ops := ops.toList.toArray) (Q := QX F Q) hX ops.toList S [] _ ρ t L (by simpa using h) hR (GA.nil _ _) (fun ρ' S' t' L' hR' hq => ⟨ρ', S', hR', hq⟩)
      exact this
    · obtain ⟨ann, S', t', L', i1, i2, i3, i4, i5, i6⟩ := xdr_ok (N := N) (ops := ops) hX S.nx (ops.toList.take (dropAl ops.toList (drawN ops.toList))) S [] [] _ t L h hR (GA.nil _ _)
      split at i4
      · rename_i hB
        rw [List.append_nil, List.reverse_reverse, Bool.and_eq_true] at hB
        split at i4
        · rename_i S2 hxal
          have hle := dropAl_le ops.toList (drawN ops.toList)
          have hdl := drawN_le ops.toList
          have hAl : ((ops.toList.take (drawN ops.toList)).drop (dropAl ops.toList (drawN ops.toList))).length = drawN ops.toList - dropAl ops.toList (drawN ops.toList) := by
            rw [List.length_drop, List.length_take]; omega
          have hAi : ∀ i, i < ((ops.toList.take (drawN ops.toList)).drop (dropAl ops.toList (drawN ops.toList))).length → ((ops.toList.take (drawN ops.toList)).drop (dropAl ops.toList (drawN ops.toList)))[i]? = ops.toList[dropAl ops.toList (drawN ops.toList) + i]? := by
            intro i hi
            rw [List.getElem?_drop, List.getElem?_take_of_lt (by omega)]
          rw [e]
          refine J.drawA (tbOf ρ S.nx) ann (dropAl ops.toList (drawN ops.toList)) (rowAl X ops.toList) hX.M hle (fun i hi1 hi2 => ?_) hB.1 hB.2 i6 i1 ?_ ?_ ?_
          · obtain ⟨o, ho, ha⟩ := dropAl_is ops.toList (drawN ops.toList) i hi1 hi2
            refine ⟨o, ho, ha, ?_⟩
            have hst := xal_step (ops := ops.toList.toArray) (N := N) (P := P) hX (l := ops.toList) _ (dropAl ops.toList (drawN ops.toList)) S' S2 hAi hxal (i - dropAl ops.toList (drawN ops.toList)) o (by rw [hAi _ (by omega), show dropAl ops.toList (drawN ops.toList) + (i - dropAl ops.toList (drawN ops.toList)) = i by omega]; exact ho) ha
            rw [show dropAl ops.toList (drawN ops.toList) + (i - dropAl ops.toList (drawN ops.toList)) = i by omega] at hst
            exact hst
          · have use : ∀ k x, x ∈ (ann.getD k ([], none)).1 ∨ (ann.getD k ([], none)).2 = some x → (findR S.h x).isSome = true := by
              intro k x hx
              rw [List.getD_eq_getElem?_getD] at hx
              cases hk : ann[k]? with
              | none => rw [hk] at hx; simp at hx
              | some a => rw [hk] at hx; exact (i5 a (List.mem_of_getElem? hk)).1 x hx
            intro k x y hx j hy hxy
            exact tbOf_inj hR (use k x hx) (use j y hy) hxy
          · intro k x hx
            rw [List.getD_eq_getElem?_getD] at hx
            cases hk : ann[k]? with
            | none => rw [hk] at hx; simp at hx
            | some a =>
              rw [hk] at hx
              obtain ⟨a1, a2⟩ := i5 a (List.mem_of_getElem? hk)
              obtain ⟨g, hg⟩ := a2 x hx
              have hs := a1 x (.inr hx)
              have e1 : tbOf ρ S.nx x = g := by simp [tbOf, hg]
              rw [e1, rowsOf_ok hR x g hg hs]
              rfl
          · have e3 : ops.toList.toArray = ops := by simp
            rw [e3]
            refine JN.mono i2 fun t2 L2 ⟨e1, e2⟩ σ hs1 hs2 => ?_
            subst e1 e2
            obtain ⟨ρ2, hR2⟩ := xal_ok (N := N) (X := X) (l := ops.toList) (σ := σ) _ (dropAl ops.toList (drawN ops.toList)) S' S2 ρ _ _ hAi hxal i3 (fun i hi => hs1 _ (by omega) (by rw [hAl] at hi; omega)) (fun i j hi hj eq => by rw [hAl] at hi hj; have := hs2 _ _ (by omega) (by omega) (by omega) (by omega) eq; omega)
            rw [hAl] at hR2
            exact xgo_ok (N := N) (ops := ops) (Q := QX F Q) hX _ S2 [] _ ρ2 _ _ i4 hR2 (GA.nil _ _) (fun ρ' S'' t'' L'' hR' hq => ⟨ρ', S'', hR', hq⟩)
        · exact i4.elim
      · exact i4.elim
  | .seq a b, sc, S, Q, ρ, t, L, h, hR => by
    simp only [xwp] at h
    refine xcas_ok _ _ h hR fun S sc h hR => ?_
    split at h
    · exact h.elim
    · rename_i cs S1 Jv s1 s2 hp
      obtain ⟨hc, h1, h2⟩ := andK_all _ _ h
      refine pre_ok sc S cs S1 _ ρ t L hp hc hR fun ρ' t' L' hR' => ?_
      refine J.seq ((xwp_ok hX a s1 S1 _ ρ' t' L' h1 hR').mono ?_)
      rintro e t2 L2 ⟨ρ2, S2, hR2, hq⟩
      cases e with
      | normal =>
        obtain ⟨x, hx, hm⟩ := hq
        exact xwp_ok hX b s2 _ Q _ t2 L2 (h2 x hx) (SM_ok hm hR2)
      | _ => exact ⟨ρ2, S2, hR2, hq⟩
    · rename_i cs S1 sc' hneg hp
      obtain ⟨hc, h1⟩ := andK_all _ _ h
      refine pre_ok sc S cs S1 _ ρ t L hp hc hR fun ρ' t' L' hR' => ?_
      refine J.seq ((xwp_ok hX a _ S1 _ ρ' t' L' h1 hR').mono ?_)
      rintro e t2 L2 ⟨ρ2, S2, hR2, hq⟩
      cases e with
      | normal => exact xwp_ok hX b _ S2 Q ρ2 t2 L2 hq hR2
      | _ => exact ⟨ρ2, S2, hR2, hq⟩
  | .cond o a b, sc, S, Q, ρ, t, L, h, hR => by
    simp only [xwp] at h
    split at h
    · rename_i p c heq
      obtain ⟨hc, h2⟩ := andK_all _ _ h
      clear h
      have hv := st_none (xev_ok hR o) (by rw [heq]; exact hc)
      rw [heq] at hv
      simp only [RV] at hv
      split at h2
      · obtain ⟨hcc, h3⟩ := h2
        rw [hcc] at hv
        exact J.ifT hv (xwp_ok hX a _ S Q ρ t L h3 hR)
      · obtain ⟨hcc, h3⟩ := h2
        rw [hcc] at hv
        exact J.ifF hv (xwp_ok hX b _ S Q ρ t L h3 hR)
      · cases c with
        | true => exact J.ifT hv (xwp_ok hX a _ S Q ρ t L h2 hR)
        | false => exact J.ifF hv (xwp_ok hX b _ S Q ρ t L h2 hR)
      · exact J.cond hv (fun hh => xwp_ok hX a _ S Q ρ t L (h2.1 hh) hR) (fun hh => xwp_ok hX b _ S Q ρ t L (h2.2 hh) hR)
    · exact h.elim
  | .block id c, sc, S, Q, ρ, t, L, h, hR => by
    simp only [xwp] at h
    refine J.block ((xwp_ok hX c _ S _ ρ t L h hR).mono ?_)
    rintro e t2 L2 ⟨ρ2, S2, hR2, hq⟩
    cases e with
    | exit j =>
      simp only [inbX, beqN] at hq
      simp only [inb]
      by_cases hj : j = id
      · rw [decide_eq_true hj, cond_true] at hq
        rw [if_pos hj]
        exact ⟨ρ2, S2, hR2, hq⟩
      · rw [decide_eq_false hj, cond_false] at hq
        rw [if_neg hj]
        exact ⟨ρ2, S2, hR2, hq⟩
    | _ => exact ⟨ρ2, S2, hR2, hq⟩
  | .loop c, sc, S, Q, ρ, t, L, h, hR => by
    simp only [xwp] at h
    split at h
    · rename_i I s
      obtain ⟨⟨x0, hx0, hm0⟩, h⟩ := h
      refine J.loop (fun n t L => ∃ x ρ, I.inv x ∧ I.μ x = n ∧ Rel F ρ (I.S x) t L) (I.μ x0) ⟨x0, _, hx0, rfl, SM_ok hm0 hR⟩ ?_
      rintro n t1 L1 ⟨x, ρ1, hx, rfl, hR1⟩
      refine (xwp_ok hX c s _ _ ρ1 t1 L1 (h x hx) hR1).mono ?_
      rintro e t2 L2 ⟨ρ2, S2, hR2, hq⟩
      cases e with
      | normal =>
        obtain ⟨x', hx', hlt, hm⟩ := hq
        exact ⟨I.μ x', hlt, x', _, hx', rfl, SM_ok hm hR2⟩
      | _ => exact ⟨ρ2, S2, hR2, hq⟩
    · rename_i P s
      obtain ⟨p, ⟨x0, hx0, hm0⟩, h⟩ := h
      refine J.loop (fun n t L => ∃ x ρ, (P.J p).inv x ∧ (P.J p).μ x = n ∧ Rel F ρ ((P.J p).S x) t L) ((P.J p).μ x0) ⟨x0, _, hx0, rfl, SM_ok hm0 hR⟩ ?_
      rintro n t1 L1 ⟨x, ρ1, hx, rfl, hR1⟩
      refine (xwp_ok hX c s _ _ ρ1 t1 L1 (h x hx) hR1).mono ?_
      rintro e t2 L2 ⟨ρ2, S2, hR2, hq⟩
      cases e with
      | normal =>
        obtain ⟨x', hx', hlt, hm⟩ := hq
        exact ⟨(P.J p).μ x', hlt, x', _, hx', rfl, SM_ok hm hR2⟩
      | _ => exact ⟨ρ2, S2, hR2, hq⟩
    · rename_i n s
      refine J.loop (fun n t L => ∃ S ρ, Rel F ρ S t L ∧ xroll (fun S Q => xwp X N c s S Q) Q n S) n ⟨S, ρ, hR, h⟩ ?_
      rintro n t1 L1 ⟨S1, ρ1, hR1, hq1⟩
      cases n with
      | zero => exact hq1.elim
      | succ n =>
        refine (xwp_ok hX c s S1 _ ρ1 t1 L1 hq1 hR1).mono ?_
        rintro e t2 L2 ⟨ρ2, S2, hR2, hq⟩
        cases e with
        | normal => exact ⟨n, by omega, S2, ρ2, hR2, hq⟩
        | _ => exact ⟨ρ2, S2, hR2, hq⟩
    · exact h.elim
  | .exit id, sc, S, Q, ρ, t, L, h, hR => J.exit ⟨ρ, S, hR, by simpa [xwp] using h⟩
  | .ret, sc, S, Q, ρ, t, L, h, hR => J.ret ⟨ρ, S, hR, by simpa [xwp] using h⟩
  | .rangeFunc .., sc, S, Q, ρ, t, L, h, hR => by simp [xwp] at h
  | .scope _, sc, S, Q, ρ, t, L, h, hR => by simp [xwp] at h
  | .label _, sc, S, Q, ρ, t, L, h, hR => by simp [xwp] at h
  | .goto _, sc, S, Q, ρ, t, L, h, hR => by simp [xwp] at h
  | .refuse _, sc, S, Q, ρ, t, L, h, hR => by simp [xwp] at h
end
end Go.Proofs.YthomfpdigmeheaaDoorAv
