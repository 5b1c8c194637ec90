/-
  ABSTRACT VALUES over the model (own framework, part 5): literals of slices, structs and arrays; slices cut; parts of structs.
-/
import Derived.Test.YtljgkjkdmoejfaaAvApp
set_option linter.unusedVariables false
set_option linter.unusedSimpArgs false
namespace Go.Proofs.YtljgkjkdmoejfaaAv
open Go Go.RowKit

theorem foldl_set (off : Nat) : ∀ (xs : List Value) (k : Nat) (cs : Array Value), off + k + xs.length ≤ cs.size →
    (xs.zipIdx k).foldl (fun (cs : Array Value) (p : Value × Nat) => cs.setIfInBounds (off + p.2) p.1) cs = (cs.toList.take (off + k) ++ xs ++ cs.toList.drop (off + k + xs.length)).toArray
  | [], k, cs, h => by simp
  | x :: xs, k, cs, h => by
    simp only [List.zipIdx_cons, List.foldl_cons]
    rw [foldl_set off xs (k + 1) _ (by simp at h ⊢; omega)]
    have e := list_seg_step cs.toList (off + k) x xs (by simp at h ⊢; omega)
    rw [Array.toList_setIfInBounds]
    congr 1

theorem fill_all (sz : Nat) : ∀ (vs : List Value) (k : Nat) (cs : Array Value), (∀ v ∈ vs, v.cells.size = sz) → (k + vs.length) * sz ≤ cs.size →
    Instr.fill (fun i => some (i * sz, sz)) cs ((vs.zipIdx k).map fun p => (p.2, p.1)) = some (cs.toList.take (k * sz) ++ vs.flatMap (·.cells.toList) ++ cs.toList.drop ((k + vs.length) * sz)).toArray
  | [], k, cs, _, _ => by simp [Instr.fill]
  | v :: vs, k, cs, hv, hl => by
    have hv0 := hv v (by simp)
    have hb : (k + (vs.length + 1)) * sz = k * sz + sz + vs.length * sz := by rw [Nat.add_mul, Nat.add_mul]; omega
    simp only [List.length_cons] at hl
    rw [hb] at hl
    simp only [List.zipIdx_cons, List.map_cons, Instr.fill]
    rw [if_neg (by simp [hv0]; omega)]
    have hz : (v.cells.zipIdx.foldl (fun cs (c, j) => cs.setIfInBounds (k * sz + j) c) cs) = (cs.toList.take (k * sz) ++ v.cells.toList ++ cs.toList.drop (k * sz + v.cells.size)).toArray := by
      have := foldl_set (k * sz) v.cells.toList 0 cs (by simp; omega)
      simp only [Nat.add_zero, Array.length_toList] at this
      rw [← this, ← Array.foldl_toList, Array.toList_zipIdx]
    rw [hz, fill_all sz vs (k + 1) _ (fun u hu => hv u (by simp [hu])) (by simp; rw [show (k + 1 + vs.length) * sz = k * sz + sz + vs.length * sz by rw [Nat.add_mul, Nat.add_mul]; omega]; omega)]
    congr 2
    have l1 : (cs.toList.take (k * sz)).length = k * sz := by simp; omega
    have l2 : (cs.toList.take (k * sz) ++ v.cells.toList).length = (k + 1) * sz := by rw [List.length_append, l1, Array.length_toList, hv0, Nat.add_mul]; omega
    simp only [List.flatMap_cons]
    have e1 : ((cs.toList.take (k * sz) ++ v.cells.toList ++ cs.toList.drop (k * sz + v.cells.size))).take ((k + 1) * sz) = cs.toList.take (k * sz) ++ v.cells.toList := by
      rw [List.take_append_of_le_length (by omega), List.take_of_length_le (by omega)]
    have e2 : ((cs.toList.take (k * sz) ++ v.cells.toList ++ cs.toList.drop (k * sz + v.cells.size))).drop ((k + 1 + vs.length) * sz) = cs.toList.drop ((k + (v :: vs).length) * sz) := by
      rw [List.drop_append, l2, List.drop_of_length_le (by rw [l2]; exact Nat.mul_le_mul_right _ (by omega)), List.nil_append, List.drop_drop]
      congr 1
      simp only [List.length_cons]
      rw [hv0, Nat.add_mul, Nat.add_mul, Nat.add_mul, Nat.add_mul]
      omega
    rw [e1, e2]
    simp [List.append_assoc]

/-- The operands of a literal whose parts are all there, in order. -/
def partsOf (xs : List Operand) : List (Nat × Operand) := (xs.zipIdx).map fun p => (p.2, p.1)

theorem partsOf_map (f : Operand → Value) (xs : List Operand) : (partsOf xs).map (fun p => (p.1, f p.2)) = ((xs.map f).zipIdx).map fun p => (p.2, p.1) := by
  unfold partsOf
  rw [List.map_map, List.zipIdx_map, List.map_map]
  rfl

theorem flat_cells {L : GH} {w : World} : ∀ {vs : List AV} {xs : List Value}, VSL L w vs xs → (∀ v ∈ vs, ones v.cells = true) → VSL L w (vs.flatMap AV.cells) (xs.flatMap (·.cells.toList))
  | [], [], _, _ => by simp [VSL]
  | v :: vs, x :: xs, h, h1 => by
    simp only [VSL] at h
    simp only [List.flatMap_cons]
    exact (cells_of h.1 (h1 v (by simp))).append (flat_cells h.2 (fun u hu => h1 u (by simp [hu])))
  | [], _ :: _, h, _ => by simp [VSL] at h
  | _ :: _, [], h, _ => by simp [VSL] at h

theorem cells_len {L : GH} {w : World} : ∀ {vs : List AV} {xs : List Value} {sz : Nat}, VSL L w vs xs → (∀ v ∈ vs, ones v.cells = true) → (∀ v ∈ vs, v.cells.length = sz) → ∀ x ∈ xs, x.cells.size = sz
  | [], [], _, _, _, _ => by simp
  | v :: vs, x :: xs, sz, h, h1, h2 => by
    simp only [VSL] at h
    intro y hy
    rcases List.mem_cons.1 hy with rfl | hy
    · have := (cells_of h.1 (h1 v (by simp))).length
      rw [h2 v (by simp)] at this
      simpa using this.symm
    · exact cells_len h.2 (fun u hu => h1 u (by simp [hu])) (fun u hu => h2 u (by simp [hu])) y hy
  | [], _ :: _, _, h, _, _ => by simp [VSL] at h
  | _ :: _, [], _, h, _, _ => by simp [VSL] at h

theorem flat_len {xs : List Value} {sz : Nat} (h : ∀ x ∈ xs, x.cells.size = sz) : (xs.flatMap (·.cells.toList)).length = xs.length * sz := by
  induction xs with
  | nil => simp
  | cons x xs ih =>
    rw [List.flatMap_cons, List.length_append, ih (fun y hy => h y (by simp [hy])), List.length_cons, Array.length_toList, h x (by simp), Nat.add_mul]
    omega

theorem run_lit {P : Program} {w : World} {T e : TypeId} {ti : TypeInfo} {z : Value} {sz n : Nat} {xs : List Value} (hT : P.underlying T = some (.slice e)) (hi : P.info? e = some ti) (hz : ti.zero = some z) (hs : ti.size = sz) (hn : n = xs.length)
    (hx : ∀ x ∈ xs, x.cells.size = sz) (hb : n * sz ≤ 16777216) :
    (Instr.buildSlice T n (((xs.zipIdx).map fun p => (p.2, p.1)).toArray)).run P w = .ok (.slice (some ⟨w.heap.size, 0, none⟩) n n) (w.alloc (.cells (xs.flatMap (·.cells.toList)).toArray e)) := by
  have hf := fun (cs : Array Value) (h : n * sz ≤ cs.size) => fill_all sz xs 0 cs hx (by rw [Nat.zero_add, ← hn]; exact h)
  unfold Instr.buildSlice
  simp only [Sem.run_bind, run_underlying hT, Result.andThen_ok, sizeOf, typeInfo, run_program, hi, Sem.run_pure, hs]
  rw [if_neg (by omega)]
  have fin : ∀ (zero : Array Value), ((match Instr.fill (fun i => some (i * sz, sz)) ((Array.range (n * sz)).map (zero[· % zero.size]!)) (((xs.zipIdx).map fun p => (p.2, p.1)).toArray).toList with
      | some cells => (do pure (.slice (some (← newRow e cells)) n n) : Sem Value)
      | x => stuck "buildSlice: a part of the wrong size") : Sem Value).run P w = .ok (.slice (some ⟨w.heap.size, 0, none⟩) n n) (w.alloc (.cells (xs.flatMap (·.cells.toList)).toArray e)) := by
    intro zero
    have hh := hf ((Array.range (n * sz)).map (zero[· % zero.size]!)) (by simp)
    have hl := flat_len hx
    rw [hh]
    have hd : ((Array.range (n * sz)).map (zero[· % zero.size]!)).toList.drop ((0 + xs.length) * sz) = [] := List.drop_of_length_le (by simp [hn])
    rw [hd]
    simp [newRow]
  by_cases h0 : n * sz = 0
  · rw [if_pos h0]
    simp only [Sem.run_bind, Sem.run_pure, Result.andThen_ok]
    exact fin #[]
  · rw [if_neg h0]
    simp only [Sem.run_bind, zeroValue, typeInfo, run_program, hi, hz, Sem.run_pure, Result.andThen_ok]
    exact fin z.cells

section
variable {P : Program} {N : Nat} {ops : Array Oper} {Q : Exit → TM → GH → Prop} {d : Option Nat} {ty : TypeId} {pos : String} {af : Array Edge} {os : List Oper} {t : TM} {L : GH}

theorem lit_run {a : Act} {w : World} {T e : TypeId} {xs : List Operand} {vs : List AV} {n sz : Nat} {ti : TypeInfo} {z : Value} (hT : P.underlying T = some (.slice e)) (hi : P.info? e = some ti) (hz : ti.zero = some z) (hs : ti.size = sz) (hn : n = xs.length)
    (hv : xs.map (ev t) = vs) (h1 : ∀ v ∈ vs, ones v.cells = true) (h2 : ∀ v ∈ vs, v.cells.length = sz) (hb : n * sz ≤ 16777216) (s : Sim N t L a w) :
    (execOp a.eval ⟨d, .buildSlice T n (partsOf xs).toArray, ty, pos, af, none⟩).run P w = .ok (.value (.slice (some ⟨w.heap.size, 0, none⟩) n n)) (w.alloc (.cells ((xs.map a.eval).flatMap (·.cells.toList)).toArray e)) ∧
      VSL L w (vs.flatMap AV.cells) ((xs.map a.eval).flatMap (·.cells.toList)) ∧ ((xs.map a.eval).flatMap (·.cells.toList)).length = n * sz := by
  subst hv
  have he := evs s xs
  have hc := cells_len he h1 h2
  have hr := run_lit (P := P) (w := w) (n := n) (xs := xs.map a.eval) hT hi hz hs (by simpa using hn) hc hb
  refine ⟨?_, flat_cells he h1, by rw [flat_len hc, List.length_map, hn]⟩
  have hp : (partsOf xs).toArray.map (fun (p : Nat × Operand) => (p.1, a.eval p.2)) = (((xs.map a.eval).zipIdx).map fun p => (p.2, p.1)).toArray := by
    rw [List.map_toArray, partsOf_map]
  simp only [execOp, Sem.run_bind]
  rw [hp, hr]
  rfl

theorem all_ones {vs : List AV} (h1 : ∀ v ∈ vs, ones v.cells = true) : ones (vs.flatMap AV.cells) = true := by
  unfold ones at *
  rw [List.all_flatMap, List.all_eq_true]
  exact h1

/-- A slice's literal, in a new block of one's own. -/
theorem JO.litOwn {T e : TypeId} {xs : List Operand} {vs cs : List AV} {n sz : Nat} {ti : TypeInfo} {z : Value} (hT : P.underlying T = some (.slice e)) (hi : P.info? e = some ti) (hz : ti.zero = some z) (hs : ti.size = sz) (hn : n = xs.length)
    (hv : xs.map (ev t) = vs) (h1 : ∀ v ∈ vs, ones v.cells = true) (h2 : ∀ v ∈ vs, v.cells.length = sz) (hb : n * sz ≤ 16777216) (hc : vs.flatMap AV.cells = cs) (hd : dok N d = true)
    (K : ∀ g, L g = none → JO P N ops Q os (t.putO d (.sl g sz 0 n)) (upd L g ⟨e, true, cs⟩)) : JO P N ops Q (⟨d, .buildSlice T n (partsOf xs).toArray, ty, pos, af, none⟩ :: os) t L :=
  JO.new (fun g => .sl g sz 0 n) hd (fun a w s => by
    subst hc
    obtain ⟨hr, hv', hl⟩ := lit_run (d := d) (ty := ty) (pos := pos) (af := af) hT hi hz hs hn hv h1 h2 hb s
    have hp : Push w (w.alloc (.cells ((xs.map a.eval).flatMap (·.cells.toList)).toArray e)) (.cells ((xs.map a.eval).flatMap (fun v : Value => v.cells.toList) ++ []).toArray e (0, 0)) := by rw [List.append_nil]; exact Push.alloc _ _
    refine ⟨_, (0, 0), _, [], _, hp, fun _ => rfl, fun o _ => by simp, hr, hv', ones_cells (all_ones h1) hv', fun L' => ?_⟩
    simp only [VS]
    exact ⟨_, _, rfl, Nat.le_refl _, .inr ⟨rfl, _, e, _, hp.new, by simp only [List.size_toArray, List.append_nil]; omega⟩⟩) K

/-- A slice's literal that is only read from now on. -/
theorem JO.litFz {T e : TypeId} {xs : List Operand} {vs cs : List AV} {n sz : Nat} {ti : TypeInfo} {z : Value} (hT : P.underlying T = some (.slice e)) (hi : P.info? e = some ti) (hz : ti.zero = some z) (hs : ti.size = sz) (hn : n = xs.length)
    (hv : xs.map (ev t) = vs) (h1 : ∀ v ∈ vs, ones v.cells = true) (h2 : ∀ v ∈ vs, v.cells.length = sz) (hb : n * sz ≤ 16777216) (hc : vs.flatMap AV.cells = cs) (hd : dok N d = true)
    (K : JO P N ops Q os (t.putO d (.fz n cs)) L) : JO P N ops Q (⟨d, .buildSlice T n (partsOf xs).toArray, ty, pos, af, none⟩ :: os) t L :=
  JO.value (dok_lt hd) fun a w s => by
    subst hc
    obtain ⟨hr, hv', hl⟩ := lit_run (d := d) (ty := ty) (pos := pos) (af := af) hT hi hz hs hn hv h1 h2 hb s
    have hp := Push.alloc w (.cells ((xs.map a.eval).flatMap (·.cells.toList)).toArray e)
    refine ⟨_, _, .fz n (vs.flatMap AV.cells), L, hr, hp.ext L, hp.rows0 s.rows, ?_, K⟩
    simp only [VS]
    refine ⟨_, _, _, rfl, Nat.le_refl _, .inr ⟨_, rfl, fresh_of s.rows, ones_cells (all_ones h1) hv', fun i v hi => ?_⟩, VSL.ext (hp.ext L) _ _ hv'⟩
    rw [add_plain, Nat.zero_add]
    simp only [World.cell?, hp.new]
    simpa using hi

/-- A slice in memory that nobody writes, cut. -/
theorem JO.cutFz {T e : TypeId} {x : Operand} {lo hi : Option Operand} {n : Nat} {cs : List AV} {l h : Int} {ti : TypeInfo} (hT : P.underlying T = some (.slice e)) (hI : P.info? e = some ti) (hx : ev t x = .fz n cs)
    (hl : match lo with | some i => ∃ k, ev t i = .p (.int k l) | none => l = 0) (hh : match hi with | some i => ∃ k, ev t i = .p (.int k h) | none => h = n) (hd : dok N d = true)
    (h0 : 0 ≤ l) (h1 : l ≤ h) (h2 : h ≤ n) (hlen : cs.length = n * ti.size) (K : JO P N ops Q os (t.putO d (.fz (h - l).toNat ((cs.drop (l.toNat * ti.size)).take ((h - l).toNat * ti.size)))) L) : JO P N ops Q (⟨d, .slice T x lo hi none, ty, pos, af, none⟩ :: os) t L :=
  JO.still hd (fun a w s => by
    have e1 := s.ev x
    rw [hx] at e1
    simp only [VS] at e1
    obtain ⟨ad, cap, vs, e1, hcap, hca, hv⟩ := e1
    have hrun : (Instr.sliceAt T (.slice ad n cap) (lo.map a.eval) (hi.map a.eval) none).run P w = .ok (.slice (if cap = l.toNat then ad else ad.map (·.add (l.toNat * ti.size))) (h.toNat - l.toNat) (cap - l.toNat)) w := by
      have hc : ((h.toNat : Nat) : Int) = h := by omega
      cases lo with
      | none =>
        simp only at hl
        subst hl
        cases hi with
        | none =>
          simp only at hh
          subst hh
          simp [Instr.sliceAt, run_underlying hT, Instr.slice, Instr.sliceBounds, sizeOf, typeInfo, hI]
        | some i =>
          obtain ⟨k, hh⟩ := hh
          have e2 := s.ev i
          rw [hh] at e2
          simp only [VS] at e2
          simp [e2, Instr.sliceAt, run_underlying hT, Instr.slice, Instr.sliceBounds, run_bound (show 0 ≤ h by omega) (show h ≤ cap by omega), sizeOf, typeInfo, hI]
      | some j =>
        obtain ⟨k', hl⟩ := hl
        have e3 := s.ev j
        rw [hl] at e3
        simp only [VS] at e3
        cases hi with
        | none =>
          simp only at hh
          subst hh
          simp [e3, Instr.sliceAt, run_underlying hT, Instr.slice, Instr.sliceBounds, run_bound h0 h1, sizeOf, typeInfo, hI]
        | some i =>
          obtain ⟨k, hh⟩ := hh
          have e2 := s.ev i
          rw [hh] at e2
          simp only [VS] at e2
          simp [e2, e3, Instr.sliceAt, run_underlying hT, Instr.slice, Instr.sliceBounds, run_bound (show 0 ≤ h by omega) (show h ≤ cap by omega), run_bound (y := h.toNat) h0 (by omega), sizeOf, typeInfo, hI]
    refine ⟨_, by simp only [execOp, e1, Option.map_none, Sem.run_bind, hrun]; rfl, ?_⟩
    simp only [VS]
    have hvl := hv.length
    refine ⟨(if cap = l.toNat then ad else ad.map (·.add (l.toNat * ti.size))), cap - l.toNat, (vs.drop (l.toNat * ti.size)).take ((h - l).toNat * ti.size), ?_, ?_, ?_, VSL.take _ (VSL.drop _ hv)⟩
    · rw [show (h - l).toNat = h.toNat - l.toNat by omega]
    · omega
    · split
      · rename_i hcl
        left
        have : (h - l).toNat = 0 := by omega
        simp [this]
      · rcases hca with rfl | ⟨b, rfl, hb1, hb2, hb3⟩
        · left; simp
        · have hdr := CellsAt.drop (.inr ⟨b, rfl, hb1, hb2, hb3⟩ : CellsAt L w (some b) vs) (l.toNat * ti.size)
          rcases hdr with hdr | ⟨b', hb', q1, q2, q3⟩
          · left; simp [hdr]
          · refine .inr ⟨b', ?_, q1, fun v hv => q2 v (List.mem_of_mem_take hv), fun i v hi => ?_⟩
            · simpa using hb'
            · rw [List.getElem?_take] at hi
              split at hi
              · exact q3 i v hi
              · cases hi) K

/-- A part of a struct by value. -/
theorem JO.field {T : TypeId} {x : Operand} {i : Nat} {cs : List AV} {fs : Array Field} {f : Field} {u : TypeDesc} {v : AV} (hT : P.underlying T = some (.struct fs)) (hf : fs[i]? = some f) (hu : P.underlying f.type = some u)
    (ha : (match u with | .struct _ | .array _ _ => true | _ => false) = false) (hx : ev t x = .agg cs) (hc : cs[f.offset]? = some v) (hd : dok N d = true)
    (K : JO P N ops Q os (t.putO d v) L) : JO P N ops Q (⟨d, .field T x i, ty, pos, af, none⟩ :: os) t L :=
  JO.still hd (fun a w s => by
    have e1 := s.ev x
    rw [hx] at e1
    simp only [VS] at e1
    obtain ⟨vs, e1, hv⟩ := e1
    obtain ⟨z, hz, hvz⟩ := hv.get _ v hc
    have hagg : (isAgg f.type).run P w = .ok false w := by
      unfold isAgg
      simp only [Sem.run_bind, run_underlying hu, Result.andThen_ok]
      cases u <;> simp_all
    refine ⟨z, ?_, hvz⟩
    simp [execOp, e1, Instr.field, run_underlying hT, hf, asAgg, part, hagg, hz]) K
end
end Go.Proofs.YtljgkjkdmoejfaaAv
