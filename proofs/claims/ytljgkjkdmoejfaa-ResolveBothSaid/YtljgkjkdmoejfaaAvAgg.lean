/-
  ABSTRACT VALUES over the model (own framework, part 13): structs and arrays: addresses of their parts, loads, literals; result variables in memory.
-/
import Derived.Test.YtljgkjkdmoejfaaAvGd
import Derived.Laws.Tables
import Derived.Laws.Cells
set_option linter.unusedVariables false
set_option linter.unusedSimpArgs false
namespace Go.Proofs.YtljgkjkdmoejfaaAv
open Go Go.RowKit

section
variable {P : Program} {N : Nat} {ops : Array Oper} {Q : Exit → TM → GH → Prop} {d : Option Nat} {ty : TypeId} {pos : String} {af : Array Edge} {os : List Oper} {t : TM} {L : GH}

theorem run_fieldPlace {w : World} {a : Addr} {f : Field} {z : Value} {sz b : Nat} (hI : TI P f.type z (sz + 1) b) : (fieldPlace a f).run P w = .ok (a.add f.offset) w := by
  obtain ⟨ti, hi, -, hs, -⟩ := hI.get
  simp [fieldPlace, sizeOf, typeInfo, hi, hs]

/-- A field's address, in a block of one's own. -/
theorem JO.fieldAddr {T : TypeId} {x : Operand} {i g off sz b : Nat} {fs : Array Field} {f : Field} {z : Value} (hT : P.underlying T = some (.struct fs)) (hf : fs[i]? = some f) (hI : TI P f.type z (sz + 1) b)
    (hx : ev t x = .ptr g off) (hd : dok N d = true) (K : JO P N ops Q os (t.putO d (.ptr g (off + f.offset))) L) : JO P N ops Q (⟨d, .fieldAddr T x i, ty, pos, af, none⟩ :: os) t L :=
  JO.still hd (fun a w s => by
    have e1 := s.ev x
    rw [hx] at e1
    simp only [VS] at e1
    exact ⟨_, by simp only [execOp, e1, Instr.fieldAt, Sem.run_bind, run_underlying hT, Result.andThen_ok, hf, Instr.sureAddr, Sem.run_pure, run_fieldPlace hI]; rfl, by simp [VS, add_plain]⟩) K
/-- A field's address, in memory that is only read. -/
theorem JO.fieldFp {T : TypeId} {x : Operand} {i sz b : Nat} {fs : Array Field} {f : Field} {z : Value} {cs : List AV} (hT : P.underlying T = some (.struct fs)) (hf : fs[i]? = some f) (hI : TI P f.type z (sz + 1) b)
    (hx : ev t x = .fp cs) (hd : dok N d = true) (K : JO P N ops Q os (t.putO d (.fp (cs.drop f.offset))) L) : JO P N ops Q (⟨d, .fieldAddr T x i, ty, pos, af, none⟩ :: os) t L :=
  JO.still hd (fun a w s => by
    have e1 := s.ev x
    rw [hx] at e1
    simp only [VS] at e1
    obtain ⟨ad, vs, e1, hc, hv⟩ := e1
    refine ⟨.pointer (some (ad.add f.offset)), by simp only [execOp, e1, Instr.fieldAt, Sem.run_bind, run_underlying hT, Result.andThen_ok, hf, Instr.sureAddr, Sem.run_pure, run_fieldPlace hI], ?_⟩
    simp only [VS]
    exact ⟨_, _, rfl, hc.drop _, hv.drop _⟩) K

/-- An element's address in an array of one's own. -/
theorem JO.idxArr {T e : TypeId} {x i : Operand} {g off n sz b : Nat} {z : Value} {k : IntKind} {j : Int} (hT : P.underlying T = some (.array n e)) (hI : TI P e z sz b)
    (hx : ev t x = .ptr g off) (hj : ev t i = .p (.int k j)) (hd : dok N d = true) (h0 : 0 ≤ j) (h1 : j < n)
    (K : JO P N ops Q os (t.putO d (.ptr g (off + j.toNat * sz))) L) : JO P N ops Q (⟨d, .indexAddr T x i, ty, pos, af, none⟩ :: os) t L :=
  JO.still hd (fun a w s => by
    have e1 := s.ev x
    have e2 := s.ev i
    rw [hx] at e1
    rw [hj] at e2
    simp only [VS] at e1 e2
    obtain ⟨ti, hi, -, hs, -⟩ := hI.get
    refine ⟨.pointer (some ⟨g, off + j.toNat * sz, none⟩), ?_, by simp [VS]⟩
    simp [execOp, e1, e2, Instr.indexAt, asIntOf, run_underlying hT, Instr.sureAddr, h0, h1, sizeOf, typeInfo, hi, hs, add_plain]) K
theorem JO.idxArrFp {T e : TypeId} {x i : Operand} {n sz b : Nat} {z : Value} {k : IntKind} {j : Int} {cs : List AV} (hT : P.underlying T = some (.array n e)) (hI : TI P e z sz b)
    (hx : ev t x = .fp cs) (hj : ev t i = .p (.int k j)) (hd : dok N d = true) (h0 : 0 ≤ j) (h1 : j < n)
    (K : JO P N ops Q os (t.putO d (.fp (cs.drop (j.toNat * sz)))) L) : JO P N ops Q (⟨d, .indexAddr T x i, ty, pos, af, none⟩ :: os) t L :=
  JO.still hd (fun a w s => by
    have e1 := s.ev x
    have e2 := s.ev i
    rw [hx] at e1
    rw [hj] at e2
    simp only [VS] at e1 e2
    obtain ⟨ti, hi, -, hs, -⟩ := hI.get
    obtain ⟨ad, vs, e1, hc, hv⟩ := e1
    refine ⟨.pointer (some (ad.add (j.toNat * sz))), ?_, ?_⟩
    · simp [execOp, e1, e2, Instr.indexAt, asIntOf, run_underlying hT, Instr.sureAddr, h0, h1, sizeOf, typeInfo, hi, hs]
    · simp only [VS]
      exact ⟨_, _, rfl, hc.drop _, hv.drop _⟩) K

theorem drop_flatMap {α : Type} {f : α → List AV} {sz : Nat} (hf : ∀ a, (f a).length = sz) : ∀ (xs : List α) (j : Nat) (h : j < xs.length), (xs.flatMap f).drop (j * sz) = f xs[j] ++ (xs.drop (j + 1)).flatMap f
  | x :: xs, 0, _ => by simp
  | x :: xs, j + 1, h => by
    have hl : j < xs.length := by simpa using h
    have e : (j + 1) * sz = (f x).length + j * sz := by rw [hf, Nat.add_mul]; omega
    rw [List.flatMap_cons, e, ← List.drop_drop, List.drop_left, drop_flatMap hf xs j hl]
    rfl
  | [], _, h => by simp at h

/-- An element's address, of a slice that is only read, whose elements are told by a list. -/
theorem JO.idxFzS {T e : TypeId} {x i : Operand} {sz b : Nat} {z : Value} {α : Type} {f : α → List AV} {xs : List α} {k : IntKind} {j : Nat} (hT : P.underlying T = some (.slice e)) (hI : TI P e z sz b)
    (hx : ev t x = .fz xs.length (xs.flatMap f)) (hf : ∀ a, (f a).length = sz) (hz : 0 < sz) (hj : ev t i = .p (.int k j)) (hd : dok N d = true) (h1 : j < xs.length)
    (K : JO P N ops Q os (t.putO d (.fp (f xs[j] ++ (xs.drop (j + 1)).flatMap f))) L) : JO P N ops Q (⟨d, .indexAddr T x i, ty, pos, af, none⟩ :: os) t L := by
  refine R.idxFz hT hI hx hj hd (by omega) (by omega) ?_ ?_
  · intro h
    have := congrArg List.length (drop_flatMap hf xs j h1)
    rw [h] at this
    simp only [List.drop_nil, List.length_nil, List.length_append, hf] at this
    omega
  · rw [Int.toNat_natCast, drop_flatMap hf xs j h1]
    exact K

def aggT : TypeDesc → Bool
  | .struct _ => true
  | .array _ _ => true
  | _ => false

theorem JO.ldOwnA {T : TypeId} {x : Operand} {g off : Nat} {r : Row} {v : AV} {u : TypeDesc} (hT : P.underlying T = some u) (ha : aggT u = false)
    (hx : ev t x = .ptr g off) (hr : L g = some r) (hc : r.cs[off]? = some v) (hd : dok N d = true) (K : JO P N ops Q os (t.putO d v) L) : JO P N ops Q (⟨d, .load T x, ty, pos, af, none⟩ :: os) t L :=
  JO.ldOwn hT (by cases u <;> simp_all [aggT]) hx hr hc hd K

theorem run_loadAgg {w : World} {T : TypeId} {u : TypeDesc} {z : Value} {b : Nat} {ad : Addr} {vs : List Value} (hT : P.underlying T = some u) (ha : aggT u = true) (hI : TI P T z vs.length b) (h : ∀ j v, vs[j]? = some v → w.cell? (ad.add j) = some v) :
    (loadVar T ad).run P w = .ok (.agg vs.toArray) w := by
  obtain ⟨ti, hi, -, hs, -⟩ := hI.get
  have hagg : (isAgg T).run P w = .ok true w := by
    unfold isAgg
    simp only [Sem.run_bind, run_underlying hT, Result.andThen_ok]
    cases u <;> simp_all [aggT]
  simp [loadVar, hagg, sizeOf, typeInfo, hi, hs, run_loadCells_list w ad vs h]

/-- What lies in an own block from a cell on. -/
theorem own_cells {w : World} {g off : Nat} {r : Row} {cs : List AV} (h : RowR L w g r) (hc : (r.cs.drop off).take cs.length = cs) (hle : off + cs.length ≤ r.cs.length) :
    ∃ vs : List Value, VSL L w cs vs ∧ ∀ j v, vs[j]? = some v → w.cell? ((⟨g, off, none⟩ : Addr).add j) = some v := by
  obtain ⟨c, fr, vs, hh, _, _, hl, hvs, hv, _⟩ := h
  refine ⟨(vs.drop off).take cs.length, by rw [← hc]; have := (hv.drop off).take cs.length; rwa [hc] at this ⊢, fun j v hj => ?_⟩
  rw [List.getElem?_take] at hj
  split at hj
  · rename_i hlt
    rw [List.getElem?_drop, hvs, List.getElem?_take, if_pos (by omega)] at hj
    rw [add_plain]
    simp only [World.cell?, hh]
    simpa using hj
  · cases hj

/-- A struct or an array is loaded out of a block of one's own. -/
theorem JO.ldAgg {T : TypeId} {x : Operand} {g off b : Nat} {r : Row} {cs : List AV} {u : TypeDesc} {z : Value} (hT : P.underlying T = some u) (ha : aggT u = true) (hI : TI P T z cs.length b)
    (hx : ev t x = .ptr g off) (hr : L g = some r) (hc : (r.cs.drop off).take cs.length = cs) (hle : off + cs.length ≤ r.cs.length) (hd : dok N d = true) (K : JO P N ops Q os (t.putO d (.agg cs)) L) :
    JO P N ops Q (⟨d, .load T x, ty, pos, af, none⟩ :: os) t L :=
  JO.still hd (fun a w s => by
    have e1 := s.ev x
    rw [hx] at e1
    simp only [VS] at e1
    obtain ⟨vs, hv, hcell⟩ := own_cells (s.rows g r hr) hc hle
    have hl := hv.length
    rw [hl] at hI
    refine ⟨.agg vs.toArray, ?_, by simp only [VS]; exact ⟨vs, rfl, hv⟩⟩
    simp [execOp, e1, Instr.loadAt, Instr.sureAddr, run_loadAgg hT ha hI hcell]) K
/-- The same out of memory that is only read. -/
theorem JO.ldAggFp {T : TypeId} {x : Operand} {b : Nat} {cs ds : List AV} {u : TypeDesc} {z : Value} (hT : P.underlying T = some u) (ha : aggT u = true) (hI : TI P T z cs.length b)
    (hx : ev t x = .fp ds) (hc : ds.take cs.length = cs) (hd : dok N d = true) (K : JO P N ops Q os (t.putO d (.agg cs)) L) :
    JO P N ops Q (⟨d, .load T x, ty, pos, af, none⟩ :: os) t L :=
  JO.still hd (fun a w s => by
    have e1 := s.ev x
    rw [hx] at e1
    simp only [VS] at e1
    obtain ⟨ad, vs, e1, hca, hv⟩ := e1
    have hv2 := hv.take cs.length
    rw [hc] at hv2
    have hl := hv2.length
    have hcell : ∀ j v, (vs.take cs.length)[j]? = some v → w.cell? (ad.add j) = some v := by
      intro j v hj
      rw [List.getElem?_take] at hj
      split at hj
      · rcases hca with rfl | ⟨b, hb, _, _, h⟩
        · simp at hj
        · obtain rfl := Option.some.inj hb
          exact h j v hj
      · cases hj
    have hI' : TI P T z (vs.take cs.length).length b := by rw [← hl]; exact hI
    refine ⟨.agg (vs.take cs.length).toArray, ?_, by simp only [VS]; exact ⟨_, rfl, hv2⟩⟩
    simp [execOp, e1, Instr.loadAt, Instr.sureAddr, run_loadAgg hT ha hI' hcell]) K

/-- A variable in memory that begins as its type's zero. -/
theorem R.alloc {T : TypeId} {z : Value} {sz b : Nat} {cs : List AV} (hI : TI P T z sz b) (hc : z.cells.toList.map AV.p = cs) (h1 : ones cs = true) (hd : dok N d = true)
    (K : ∀ g, L g = none → JO P N ops Q os (t.putO d (.ptr g 0)) (upd L g ⟨T, true, cs⟩)) : JO P N ops Q (⟨d, .alloc T, ty, pos, af, none⟩ :: os) t L :=
  JO.new (fun g => .ptr g 0) hd (fun a w s => by
    obtain ⟨i, hi, hz, -, -⟩ := hI.get
    have hv : VSL L w cs z.cells.toList := by
      rw [← hc]
      generalize z.cells.toList = l
      induction l with
      | nil => simp [VSL]
      | cons x l ih => simp only [List.map_cons, VSL, VS]; exact ⟨trivial, ih⟩
    refine ⟨w.alloc (.cells z.cells T), (0, 0), z.cells.toList, [], .pointer (some ⟨w.heap.size, 0, none⟩), ?_, fun _ => rfl, fun o _ => by simp, ?_, hv, ones_cells h1 hv, fun L' => by simp [VS]⟩
    · simpa using Push.alloc w (.cells z.cells T)
    · simp [execOp, Instr.alloc, zeroValue, typeInfo, hi, hz, newVar, newRow]) K

/-- A literal's cells: parts laid over zeros. -/
def laid (pl : List (Nat × Nat)) : List AV → List (Nat × List AV) → Option (List AV)
  | zs, [] => some zs
  | zs, (i, cs) :: rest =>
    match pl[i]? with
    | none => none
    | some (off, sz) => if cs.length = sz ∧ off + cs.length ≤ zs.length then laid pl (zs.take off ++ cs ++ zs.drop (off + cs.length)) rest else none

theorem fill_laid {w : World} {pl : List (Nat × Nat)} : ∀ (parts : List (Nat × Value)) (avs : List (Nat × List AV)) (zs out : List AV) (cells : Array Value), VSL L w zs cells.toList →
    avs.map (·.1) = parts.map (·.1) → (∀ (i : Nat) (p : Nat × Value) (q : Nat × List AV), parts[i]? = some p → avs[i]? = some q → VSL L w q.2 p.2.cells.toList) → laid pl zs avs = some out →
    ∃ res : Array Value, Instr.fill (fun x => pl[x]?) cells parts = some res ∧ VSL L w out res.toList
  | [], [], zs, out, cells, hz, _, _, h => by
    simp only [laid, Option.some.injEq] at h
    subst h
    exact ⟨cells, rfl, hz⟩
  | (i, v) :: parts, (i', cs) :: avs, zs, out, cells, hz, hm, hp, h => by
    simp only [List.map_cons, List.cons.injEq] at hm
    obtain ⟨rfl, hm⟩ := hm
    simp only [laid] at h
    have hv := hp 0 (i', v) (i', cs) rfl rfl
    simp only at hv
    cases hpl : pl[i']? with
    | none => simp [hpl] at h
    | some os =>
      obtain ⟨off, sz⟩ := os
      simp only [hpl] at h
      split at h
      · rename_i hc
        have hl := hv.length
        have hzl := hz.length
        simp only [Array.length_toList] at hl hzl
        have hfold : v.cells.zipIdx.foldl (fun (cs : Array Value) (p : Value × Nat) => cs.setIfInBounds (off + p.2) p.1) cells = (cells.toList.take off ++ v.cells.toList ++ cells.toList.drop (off + v.cells.toList.length)).toArray := by
          have := foldl_set off v.cells.toList 0 cells (by simp; omega)
          rw [← Array.foldl_toList, Array.toList_zipIdx]
          simpa using this
        obtain ⟨res, hr, ho⟩ := fill_laid parts avs _ out (cells.toList.take off ++ v.cells.toList ++ cells.toList.drop (off + v.cells.toList.length)).toArray (by
          have h3 := ((hz.take off).append hv).append (hz.drop (off + cs.length))
          rw [hv.length] at h3
          rw [hv.length]
          simpa using h3) hm (fun k p q h1 h2 => hp (k + 1) p q (by simpa using h1) (by simpa using h2)) h
        refine ⟨res, ?_, ho⟩
        simp only [Instr.fill, hpl]
        rw [if_neg]
        · rw [← hr]
          congr 1
        · simp; omega
      · cases h
  | [], _ :: _, _, _, _, _, hm, _, _ => by simp at hm
  | _ :: _, [], _, _, _, _, hm, _, _ => by simp at hm

/-- A struct's literal. -/
theorem JO.build {T : TypeId} {parts : List (Nat × Operand)} {fs : Array Field} {pl : List (Nat × Nat)} {z : Value} {sz b : Nat} {zs out : List AV} (hT : P.underlying T = some (.struct fs)) (hI : TI P T z sz b)
    (hp : fs.toList.mapM (fun f => (P.info? f.type).map fun i => (f.offset, i.size)) = some pl) (hz : z.cells.toList.map AV.p = zs) (h1 : ∀ p ∈ parts, ones (ev t p.2).cells = true)
    (ho : laid pl zs (parts.map fun p => (p.1, (ev t p.2).cells)) = some out) (hd : dok N d = true) (K : JO P N ops Q os (t.putO d (.agg out)) L) :
    JO P N ops Q (⟨d, .build T parts.toArray, ty, pos, af, none⟩ :: os) t L :=
  JO.still hd (fun a w s => by
    obtain ⟨ti, hi, hzz, -, -⟩ := hI.get
    have hzv : VSL L w zs z.cells.toList := by
      rw [← hz]
      generalize z.cells.toList = l
      induction l with
      | nil => simp [VSL]
      | cons x l ih => simp only [List.map_cons, VSL, VS]; exact ⟨trivial, ih⟩
    obtain ⟨res, hr, hv⟩ := fill_laid (w := w) (L := L) (pl := pl) (parts.map fun p => (p.1, a.eval p.2)) (parts.map fun p => (p.1, (ev t p.2).cells)) zs out z.cells hzv (by simp) (by
      intro i p q h2 h3
      rw [List.getElem?_map] at h2 h3
      cases hi : parts[i]? with
      | none => rw [hi] at h2; cases h2
      | some o =>
        rw [hi] at h2 h3
        obtain rfl := Option.some.inj h2
        obtain rfl := Option.some.inj h3
        exact cells_of (s.ev o.2) (h1 o (List.mem_of_getElem? hi))) ho
    have hb : P.built T (parts.map fun p => (p.1, a.eval p.2)) = some res := by
      simp only [Program.built, hi, hT, hzz, hp]
      rw [← hr]
      congr 1
      funext x
      simp
    refine ⟨.agg res, ?_, by simp only [VS]; exact ⟨res.toList, by simp, hv⟩⟩
    have := run_build (P := P) w T (parts.map fun p => (p.1, a.eval p.2)).toArray res (by simpa using hb)
    simp only [execOp, List.map_toArray, Sem.run_bind, this]
    rfl) K
end

/-! Result variables that lie in memory -/

/-- What a result variable is known to hold. -/
def outC (P : Program) (t : TM) (L : GH) : ResultVar → AV → Prop
  | .tmp s, v => t s = v
  | .cell c T, v => ∃ g off r u, t c = .ptr g off ∧ L g = some r ∧ P.underlying T = some u ∧
      ((aggT u = true ∧ ∃ z b cs, TI P T z cs.length b ∧ (r.cs.drop off).take cs.length = cs ∧ off + cs.length ≤ r.cs.length ∧ v = .agg cs) ∨ (aggT u = false ∧ r.cs[off]? = some v))
def outsC (P : Program) (t : TM) (L : GH) : List ResultVar → List AV → Prop
  | [], [] => True
  | r :: rs, v :: vs => outC P t L r v ∧ outsC P t L rs vs
  | _, _ => False

theorem own_cell {w : World} {L : GH} {g off : Nat} {r : Row} {v : AV} (h : RowR L w g r) (hc : r.cs[off]? = some v) : ∃ z, w.cell? ⟨g, off, none⟩ = some z ∧ VS L w v z := by
  obtain ⟨c, fr, vs, hh, _, _, hle, hvs, hv, _⟩ := h
  obtain ⟨z, hz, hvz⟩ := hv.get off v hc
  refine ⟨z, ?_, hvz⟩
  have hlt : off < r.cs.length := (List.getElem?_eq_some_iff.1 hc).1
  rw [hvs, List.getElem?_take, if_pos hlt] at hz
  simp only [World.cell?, hh]
  simpa using hz

theorem add_zero_addr (g o : Nat) : (⟨g, o, none⟩ : Addr).add 0 = ⟨g, o, none⟩ := by rw [add_plain]; simp

theorem outsC_run {P : Program} {N : Nat} {L : GH} {a : Act} {w : World} (t : TM) (s : Sim N t L a w) : ∀ (rs : List ResultVar) (vs : List AV), outsC P t L rs vs →
    ∃ xs : List Value, (rs.mapM (readOut a)).run P w = .ok xs w ∧ VSL L w vs xs
  | [], [], h => ⟨[], by simp, by simp [VSL]⟩
  | r :: rs, v :: vs, h => by
    obtain ⟨h1, h2⟩ := h
    obtain ⟨xs, hx, hv⟩ := outsC_run (P := P) t s rs vs h2
    have : ∃ x, (readOut a r).run P w = .ok x w ∧ VS L w v x := by
      cases r with
      | tmp i =>
        simp only [outC] at h1
        subst h1
        exact ⟨_, by simp [readOut], s.tm i⟩
      | cell c T =>
        obtain ⟨g, off, r, u, ht, hg, hu, hc⟩ := h1
        have e1 := s.tm c
        rw [ht] at e1
        simp only [VS] at e1
        rcases hc with ⟨ha, z, b, cs, hI, hcs, hle, rfl⟩ | ⟨ha, hcv⟩
        · obtain ⟨us, hv, hcell⟩ := own_cells (s.rows g r hg) hcs hle
          have hl := hv.length
          rw [hl] at hI
          refine ⟨.agg us.toArray, ?_, by simp only [VS]; exact ⟨us, rfl, hv⟩⟩
          simp [readOut, e1, asAddr, run_loadAgg hu ha hI hcell]
        · obtain ⟨z, hz, hvz⟩ := own_cell (s.rows g r hg) hcv
          have hagg : (isAgg T).run P w = .ok false w := by
            unfold isAgg
            simp only [Sem.run_bind, run_underlying hu, Result.andThen_ok]
            cases u <;> simp_all [aggT]
          exact ⟨z, by simp [readOut, e1, asAddr, loadVar, hagg, hz], hvz⟩
    obtain ⟨x, hx1, hv1⟩ := this
    exact ⟨x :: xs, by simp [hx1, hx], by simp only [VSL]; exact ⟨hv1, hv⟩⟩
  | [], _ :: _, h => by simp [outsC] at h
  | _ :: _, [], h => by simp [outsC] at h

def JQC (P : Program) (rs : List ResultVar) (R : AV → GH → Prop) : Exit → TM → GH → Prop
  | .normal, t, L => ∃ vs L', outsC P t L rs vs ∧ (∀ g r, L' g = some r → L g = some r) ∧ R (out1 vs) L'
  | .ret, t, L => ∃ vs L', outsC P t L rs vs ∧ (∀ g r, L' g = some r → L g = some r) ∧ R (out1 vs) L'
  | _, _, _ => False

/-- A contract out of its function's body, some of whose results lie in memory. -/
theorem JF.bodyC {P : Program} {f : FuncId} {fn : Func} {c : Code} {args : List AV} {L : GH} {R : AV → GH → Prop} (hf : P.funcs[f]? = some fn) (hb : fn.body = some c) (hn : args.length ≤ fn.ntmps)
    (h : J P fn.ntmps c (JQC P fn.results.toList R) (tm0 args) L) : JF P f args L R := by
  intro w xs hglb hv hrows
  refine calls_of_wp hf hb ?_
  have hl := hv.length
  have s : Sim fn.ntmps (tm0 args) L { tmps := xs.toArray ++ Array.replicate (fn.ntmps - xs.toArray.size) undef, defers := [] } w := by
    refine ⟨fun i => ?_, hrows, by simp; omega, rfl, hglb⟩
    unfold tm0
    by_cases hi : i < args.length
    · have := hv.getD i hi
      have e : (xs.toArray ++ Array.replicate (fn.ntmps - xs.toArray.size) undef).getD i undef = xs.getD i undef := by
        have hx : i < xs.length := by omega
        simp [Array.getD_eq_getD_getElem?, Array.getElem?_append, hx, List.getD_eq_getElem?_getD]
      show VS L w _ ((xs.toArray ++ Array.replicate (fn.ntmps - xs.toArray.size) undef).getD i undef)
      rw [e]
      exact this
    · have e : args.getD i .top = .top := by simp [List.getD_eq_getElem?_getD, List.getElem?_eq_none (Nat.le_of_not_lt hi)]
      rw [e]
      simp [VS]
  refine wp_mono (h L w _ w (Ext.refl _ _) s) ?_
  rintro e a' w' ⟨t', L', s', x, q⟩
  have fin : (∃ vs L'', outsC P t' L' fn.results.toList vs ∧ (∀ g r, L'' g = some r → L' g = some r) ∧ R (out1 vs) L'') → a'.defers = [] ∧ ∃ v, (results fn a'.tmps).run P w' = .ok v w' ∧
      ∃ v' x' L'', Ending.returned v = .returned x' ∧ VS L'' w' v' x' ∧ (∀ g r, L'' g = some r → RowR L'' w' g r) ∧ Ext L w L'' w' ∧ R v' L'' := by
    rintro ⟨vs, L'', ho, hsub, hr⟩
    obtain ⟨us, hu, hv0⟩ := outsC_run (P := P) t' s' _ _ ho
    have hd : ∀ b, L' b = none → L'' b = none := fun b hb => by
      cases h' : L'' b with
      | none => rfl
      | some r => rw [hsub b r h'] at hb; cases hb
    have hx2 := Ext.drop w' hd
    have hv := VSL.ext hx2 _ _ hv0
    refine ⟨s'.df.1, if h : us.toArray.size = 1 then us.toArray[0] else .tuple us.toArray, ?_, out1 vs, _, L'', rfl, ?_, fun g r hg => (s'.rows g r (hsub g r hg)).ext hx2 rfl, x.trans hx2, hr⟩
    · have hm : (fn.results.mapM (readOut a')).run P w' = .ok us.toArray w' := by
        rw [Array.mapM_eq_mapM_toList, Sem.run_map, hu]
        simp
      have e : results fn a'.tmps = (do let vs ← fn.results.mapM (readOut a'); pure (if h : vs.size = 1 then vs[0] else .tuple vs)) := by
        unfold results
        congr 2
      rw [e, Sem.run_bind, hm]
      rfl
    · have hl := hv.length
      match vs, us, hv, hl with
      | [v], [u], hv, _ =>
        simp only [VSL] at hv
        simpa [out1] using hv.1
      | [], [], hv, _ => simpa [out1, VS] using hv
      | v :: v2 :: vs, u :: u2 :: us, hv, _ =>
        have : ¬ (u :: u2 :: us).toArray.size = 1 := by simp
        rw [dif_neg this]
        simp only [out1, VS]
        exact ⟨_, rfl, hv⟩
  cases e with
  | normal => exact fin q
  | ret => exact fin q
  | exit id => exact q.elim
  | goto l => exact q.elim
  | panic ch => exact q.elim
  | outgrown => exact q.elim
end Go.Proofs.YtljgkjkdmoejfaaAv
