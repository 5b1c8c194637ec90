/-
  ABSTRACT VALUES over the model (own framework): arrays; parts of structs by value; equality of structs and arrays.
-/
import Derived.Test.YtljgkjkdmoejfaaAvMk
import Derived.Laws.StructEq
set_option linter.unusedVariables false
set_option linter.unusedSimpArgs false
namespace Go.Proofs.YtljgkjkdmoejfaaAv
open Go Go.RowKit
section
variable {P : Program} {N : Nat} {ops : Array Oper} {Q : Exit → TM → GH → Prop} {d : Option Nat} {ty : TypeId} {pos : String} {af : Array Edge} {os : List Oper} {t : TM} {L : GH}

theorem run_isAgg {w : World} {T : TypeId} {u : TypeDesc} (hT : P.underlying T = some u) : (isAgg T).run P w = .ok (aggT u) w := by
  unfold isAgg
  simp only [Sem.run_bind, run_underlying hT, Result.andThen_ok]
  cases u <;> simp [aggT]
theorem run_partA {w : World} {T : TypeId} {u : TypeDesc} {z : Value} {sz b : Nat} (hT : P.underlying T = some u) (ha : aggT u = true) (hI : TI P T z sz b) (cs : Array Value) (off : Nat) :
    (part T cs off).run P w = .ok (.agg (cs.extract off (off + sz))) w := by
  obtain ⟨ti, hi, -, hs, -⟩ := hI.get
  simp [part, run_isAgg hT, ha, sizeOf, typeInfo, hi, hs]
theorem run_part1 {w : World} {T : TypeId} {u : TypeDesc} (hT : P.underlying T = some u) (ha : aggT u = false) {cs : Array Value} {off : Nat} {v : Value} (hv : cs[off]? = some v) :
    (part T cs off).run P w = .ok v w := by
  simp [part, run_isAgg hT, ha, hv]
theorem ext_list (vs : List Value) (off sz : Nat) : (vs.toArray).extract off (off + sz) = ((vs.drop off).take sz).toArray := by
  apply Array.ext'
  simp [Array.toList_extract]

/-- A part of a struct by value that is a struct or an array itself. -/
theorem JO.fieldA {T : TypeId} {x : Operand} {i sz b : Nat} {cs : List AV} {fs : Array Field} {f : Field} {u : TypeDesc} {z : Value} (hT : P.underlying T = some (.struct fs)) (hf : fs[i]? = some f) (hu : P.underlying f.type = some u)
    (ha : aggT u = true) (hI : TI P f.type z sz b) (hx : ev t x = .agg cs) (hd : dok N d = true)
    (K : JO P N ops Q os (t.putO d (.agg ((cs.drop f.offset).take sz))) L) : JO P N ops Q (⟨d, .field T x i, ty, pos, af, none⟩ :: os) t L :=
  JO.still hd (fun a w s => by
    have e1 := s.ev x
    rw [hx] at e1
    simp only [VS] at e1
    obtain ⟨vs, e1, hv⟩ := e1
    refine ⟨.agg ((vs.drop f.offset).take sz).toArray, ?_, by simp only [VS]; exact ⟨_, rfl, (hv.drop _).take _⟩⟩
    simp [execOp, e1, Instr.field, run_underlying hT, hf, asAgg, run_partA hu ha hI, ext_list]) K
/-- An element of an array by value. -/
theorem JO.index1 {T e : TypeId} {x y : Operand} {n b : Nat} {cs : List AV} {u : TypeDesc} {z : Value} {k : IntKind} {j : Int} {v : AV} (hT : P.underlying T = some (.array n e)) (hu : P.underlying e = some u) (ha : aggT u = false) (hI : TI P e z 1 b)
    (hx : ev t x = .agg cs) (hy : ev t y = .p (.int k j)) (h0 : 0 ≤ j) (h1 : j < n) (hc : cs[j.toNat]? = some v) (hd : dok N d = true) (K : JO P N ops Q os (t.putO d v) L) :
    JO P N ops Q (⟨d, .index T x y, ty, pos, af, none⟩ :: os) t L :=
  JO.still hd (fun a w s => by
    have e1 := s.ev x
    have e2 := s.ev y
    rw [hx] at e1
    rw [hy] at e2
    simp only [VS] at e1 e2
    obtain ⟨vs, e1, hv⟩ := e1
    obtain ⟨z', hz, hvz⟩ := hv.get _ v hc
    obtain ⟨ti, hi, -, hs, -⟩ := hI.get
    refine ⟨z', ?_, hvz⟩
    simp [execOp, e1, e2, Instr.index, asIntOf, run_underlying hT, h0, h1, sizeOf, typeInfo, hi, hs, run_part1 hu ha (cs := vs.toArray) (off := j.toNat) (v := z') (by simpa using hz)]) K

theorem fill_congr {p q : Nat → Option (Nat × Nat)} : ∀ (parts : List (Nat × Value)) (cells : Array Value), (∀ x ∈ parts, p x.1 = q x.1) → Instr.fill p cells parts = Instr.fill q cells parts
  | [], _, _ => rfl
  | (i, v) :: parts, cells, h => by
    simp only [Instr.fill]
    rw [h (i, v) (by simp)]
    cases q i with
    | none => rfl
    | some os =>
      simp only
      split
      · rfl
      · exact fill_congr parts _ fun x hx => h x (by simp [hx])
theorem JO.buildArr {T e : TypeId} {parts : List (Nat × Operand)} {n s bb : Nat} {z ze : Value} {sz b : Nat} {zs out : List AV} (hT : P.underlying T = some (.array n e)) (hI : TI P T z sz b) (hE : TI P e ze s bb)
    (hlt : ∀ p ∈ parts, p.1 < n) (hz : z.cells.toList.map AV.p = zs) (h1 : ∀ p ∈ parts, ones (ev t p.2).cells = true)
    (ho : laid ((List.range n).map fun i => (i * s, s)) zs (parts.map fun p => (p.1, (ev t p.2).cells)) = some out) (hd : dok N d = true) (K : JO P N ops Q os (t.putO d (.agg out)) L) :
    JO P N ops Q (⟨d, .build T parts.toArray, ty, pos, af, none⟩ :: os) t L :=
  JO.still hd (fun a w sm => by
    obtain ⟨ti, hi, hzz, -, -⟩ := hI.get
    obtain ⟨te, hie, -, hse, -⟩ := hE.get
    have hzv : VSL L w zs z.cells.toList := by
      rw [← hz]
      generalize z.cells.toList = l
      induction l with
      | nil => simp [VSL]
      | cons x l ih => simp only [List.map_cons, VSL, VS]; exact ⟨trivial, ih⟩
    obtain ⟨res, hr, hv⟩ := fill_laid (w := w) (L := L) (pl := (List.range n).map fun i => (i * s, s)) (parts.map fun p => (p.1, a.eval p.2)) (parts.map fun p => (p.1, (ev t p.2).cells)) zs out z.cells hzv (by simp) (by
      intro i p q h2 h3
      rw [List.getElem?_map] at h2 h3
      cases hi : parts[i]? with
      | none => rw [hi] at h2; cases h2
      | some o =>
        rw [hi] at h2 h3
        obtain rfl := Option.some.inj h2
        obtain rfl := Option.some.inj h3
        exact cells_of (sm.ev o.2) (h1 o (List.mem_of_getElem? hi))) ho
    have hb : P.built T (parts.map fun p => (p.1, a.eval p.2)) = some res := by
      simp only [Program.built, hi, hT, hzz, hie]
      rw [← hr]
      refine fill_congr _ _ fun x hx => ?_
      obtain ⟨y, hy, rfl⟩ := List.mem_map.1 hx
      have := hlt y hy
      simp only [List.getElem?_map, hse]
      rw [List.getElem?_range this]
      rfl
    refine ⟨.agg res, ?_, by simp only [VS]; exact ⟨res.toList, by simp, hv⟩⟩
    have := run_build (P := P) w T (parts.map fun p => (p.1, a.eval p.2)).toArray res (by simpa using hb)
    simp only [execOp, List.map_toArray, Sem.run_bind, this]
    rfl) K

/-- A whole array that is only read, as a slice. -/
theorem JO.sliceFp {T e : TypeId} {x : Operand} {n : Nat} {cs : List AV} {te : TypeInfo} (hT : P.underlying T = some (.array n e)) (hie : P.info? e = some te) (hx : ev t x = .fp cs) (hd : dok N d = true)
    (K : JO P N ops Q os (t.putO d (.fz n (cs.take (n * te.size)))) L) : JO P N ops Q (⟨d, .slice T x none none none, ty, pos, af, none⟩ :: os) t L :=
  JO.still hd (fun a w s => by
    have e1 := s.ev x
    rw [hx] at e1
    simp only [VS] at e1
    obtain ⟨ad, vs, e1, hc, hv⟩ := e1
    refine ⟨.slice (some (if n = 0 then ad else ad.add 0)) n n, ?_, ?_⟩
    · simp [execOp, e1, Instr.sliceAt, run_underlying hT, Instr.sureAddr, Instr.sliceBounds, sizeOf, typeInfo, hie]
    · have ea : (if n = 0 then ad else ad.add 0) = ad := by
        split
        · rfl
        · simp [Addr.add]
      rw [ea]
      simp only [VS]
      refine ⟨some ad, n, vs.take (n * te.size), rfl, Nat.le_refl _, ?_, hv.take _⟩
      rcases hc with rfl | ⟨a', h1, h2, h3, h4⟩
      · exact .inl (by simp)
      · refine .inr ⟨a', h1, h2, fun v hv => h3 v (List.mem_of_mem_take hv), fun i v hi => h4 i v ?_⟩
        rw [List.getElem?_take] at hi
        split at hi
        · exact hi
        · cases hi) K
/-- An array of one's own, of elements of one cell, as a slice. -/
theorem JO.sliceArr {T e : TypeId} {x : Operand} {lo hi : Option Operand} {n g off : Nat} {r : Row} {l h : Int} {te : TypeInfo} (hT : P.underlying T = some (.array n e)) (hie : P.info? e = some te) (h1 : te.size = 1) (hx : ev t x = .ptr g off) (hr : L g = some r)
    (hle : off + n ≤ r.cs.length) (hl : match lo with | some i => ∃ k, ev t i = .p (.int k l) | none => l = 0) (hh : match hi with | some i => ∃ k, ev t i = .p (.int k h) | none => h = n) (hd : dok N d = true)
    (h0 : 0 ≤ l) (hlh : l ≤ h) (hhn : h ≤ n)
    (K : JO P N ops Q os (t.putO d (.sl g 1 (off + l.toNat) (h - l).toNat)) L) : JO P N ops Q (⟨d, .slice T x lo hi none, ty, pos, af, none⟩ :: os) t L :=
  JO.still hd (fun a w s => by
    have e1 := s.ev x
    rw [hx] at e1
    simp only [VS] at e1
    obtain ⟨c, fr, vs, hheap, -, -, hlen, -⟩ := s.rows g r hr
    refine ⟨.slice (some (if n = l.toNat then ⟨g, off, none⟩ else (⟨g, off, none⟩ : Addr).add (l.toNat * te.size))) (h.toNat - l.toNat) (n - l.toNat), ?_, ?_⟩
    · have hb : (Instr.sliceBounds false n n (lo.map a.eval) (hi.map a.eval) none).run P w = .ok (l.toNat, h.toNat, n) w := by
        have hm : max h 0 = h := by omega
        have h00 : 0 ≤ h := by omega
        unfold Instr.sliceBounds
        cases lo with
        | none =>
          simp only at hl
          subst hl
          cases hi with
          | none => simp only at hh; subst hh; simp
          | some i =>
            obtain ⟨k, hh⟩ := hh
            have e2 := s.ev i
            rw [hh] at e2
            simp only [VS] at e2
            simp [e2, Instr.sliceBound, asIntOf, h00, hhn]
        | some i1 =>
          obtain ⟨k1, hl⟩ := hl
          have e1 := s.ev i1
          rw [hl] at e1
          simp only [VS] at e1
          cases hi with
          | none =>
            simp only at hh
            subst hh
            simp [e1, Instr.sliceBound, asIntOf, h0, hlh]
          | some i =>
            obtain ⟨k, hh⟩ := hh
            have e2 := s.ev i
            rw [hh] at e2
            simp only [VS] at e2
            simp [e1, e2, Instr.sliceBound, asIntOf, h0, h00, hhn, hm, hlh]
      simp [execOp, e1, Instr.sliceAt, run_underlying hT, Instr.sureAddr, hb, sizeOf, typeInfo, hie]
    · simp only [VS]
      refine ⟨_, n - l.toNat, by rw [show (h - l).toNat = h.toNat - l.toNat by omega], by omega, ?_⟩
      by_cases hn : n = l.toNat
      · left; omega
      · right
        rw [if_neg hn, add_plain, h1, Nat.mul_one]
        exact ⟨rfl, c, _, _, hheap, by omega⟩) K
/-- The array behind a slice of one's own. -/
theorem JO.toArr {T e : TypeId} {x : Operand} {n m g sz off : Nat} (hT : P.underlying T = some (.array n e)) (hx : ev t x = .sl g sz off m) (hn : n ≤ m) (h0 : 0 < n) (hd : dok N d = true)
    (K : JO P N ops Q os (t.putO d (.ptr g off)) L) : JO P N ops Q (⟨d, .sliceToArrayPointer T x, ty, pos, af, none⟩ :: os) t L :=
  JO.still hd (fun a w s => by
    have e1 := s.ev x
    rw [hx] at e1
    simp only [VS] at e1
    obtain ⟨ad, cap, e1, hc, ha⟩ := e1
    have : ad = some ⟨g, off, none⟩ := by
      rcases ha with ha | ⟨ha, _⟩
      · omega
      · exact ha
    subst this
    refine ⟨.pointer (some ⟨g, off, none⟩), ?_, by simp [VS]⟩
    have hnm : ¬ m < n := by omega
    simp [execOp, e1, Instr.arrayAt, run_underlying hT, hnm]) K

/-! Equality of structs and arrays, cell by cell -/
theorem run_eqArr {w : World} (dd : Nat) {T e : TypeId} {n s bb : Nat} {ze : Value} (hT : P.underlying T = some (.array n e)) (hE : TI P e ze s bb) (xs ys : Array Value) (f : Nat → Bool)
    (hf : ∀ i, i < n → ∃ a b, (part e xs (i * s)).run P w = .ok a w ∧ (part e ys (i * s)).run P w = .ok b w ∧ (Op.equalIn dd e a b).run P w = .ok (f i) w) :
    (Op.equalIn (dd + 1) T (.agg xs) (.agg ys)).run P w = .ok ((List.range n).all f) w := by
  obtain ⟨te, hie, -, hse, -⟩ := hE.get
  have key : ∀ (m k : Nat), k + m = n → (do
      let r ← forIn (List.range' k m) ((none, ()) : Option Bool × Unit) fun i r => do
        if (!(← Op.equalIn dd e (← part e xs (i * s)) (← part e ys (i * s)))) = true then Pure.pure (.done (some false, ())) else Pure.pure (.yield (none, ()))
      match r.fst with
      | some a => Pure.pure a
      | none => Pure.pure true : Sem Bool).run P w = .ok ((List.range' k m).all f) w := by
    intro m
    induction m with
    | zero => intro k _; simp
    | succ m ih =>
      intro k hk
      obtain ⟨a, b, h1, h2, h3⟩ := hf k (by omega)
      have ih' := ih (k + 1) (by omega)
      simp only [Sem.run_bind] at ih'
      simp only [List.range'_succ, List.forIn_cons, Sem.run_bind, h1, h2, h3, Result.andThen_ok, List.all_cons]
      cases hfk : f k with
      | true => simp only [Bool.not_true, Bool.false_eq_true, if_false, Sem.run_pure, Result.andThen_ok, Bool.true_and]; exact ih'
      | false => simp
  have := key n 0 (by omega)
  rw [← List.range_eq_range'] at this
  have hsz : (sizeOf e).run P w = .ok s w := by simp [sizeOf, typeInfo, hie, hse]
  simp only [Op.equalIn, Sem.run_bind, run_underlying hT, Result.andThen_ok, hsz]
  simp only [Sem.run_bind] at this
  simp [List.range_eq_range'] at this ⊢
  rw [← this]
  congr 1
  funext a w'
  rcases a with ⟨_ | _, _⟩ <;> rfl
end
end Go.Proofs.YtljgkjkdmoejfaaAv
