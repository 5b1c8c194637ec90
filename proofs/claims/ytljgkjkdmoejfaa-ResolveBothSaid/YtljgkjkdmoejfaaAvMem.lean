/-
  ABSTRACT VALUES over the model (own framework, part 3): memory: new blocks, loads, stores, slices cut, append, bytes and strings.
-/
import Derived.Test.YtljgkjkdmoejfaaAvOps
import Derived.Laws.BytesString
import Derived.DataElems
set_option linter.unusedVariables false
set_option linter.unusedSimpArgs false
namespace Go.Proofs.YtljgkjkdmoejfaaAv
open Go Go.RowKit

def upd (L : GH) (g : Nat) (r : Row) : GH := fun b => if b = g then some r else L b
def del (L : GH) (g : Nat) : GH := fun b => if b = g then none else L b
theorem upd_same (L : GH) (g : Nat) (r : Row) : upd L g r g = some r := by simp [upd]
theorem upd_ne (L : GH) (g b : Nat) (r : Row) (h : b ≠ g) : upd L g r b = L b := by simp [upd, h]
theorem upd_upd (L : GH) (g : Nat) (r s : Row) : upd (upd L g r) g s = upd L g s := by funext b; simp only [upd]; split <;> rfl
theorem upd_comm (L : GH) (g h : Nat) (r s : Row) (hn : g ≠ h) : upd (upd L g r) h s = upd (upd L h s) g r := by
  funext b; simp only [upd]; split <;> split <;> simp_all
theorem del_upd (L : GH) (g : Nat) (r : Row) (h : L g = none) : del (upd L g r) g = L := by
  funext b; simp only [upd, del]; split
  · rename_i hb; rw [hb, h]
  · rfl
theorem upd_none {L : GH} {g b : Nat} {r : Row} (h : upd L g r b = none) : b ≠ g ∧ L b = none := by
  unfold upd at h
  split at h
  · cases h
  · rename_i hb; exact ⟨hb, h⟩

theorem RowR.lt {L : GH} {w : World} {g : Nat} {r : Row} (h : RowR L w g r) : g < w.heap.size := by
  obtain ⟨c, fr, vs, hc, _⟩ := h
  exact (Array.getElem?_eq_some_iff.1 hc).1

theorem fresh_of {L : GH} {w : World} (hr : ∀ g r, L g = some r → RowR L w g r) : L w.heap.size = none := by
  cases h : L w.heap.size with
  | none => rfl
  | some r => exact absurd (hr _ r h).lt (Nat.lt_irrefl _)

/-- One new block lies behind the others; else nothing of memory has changed. -/
structure Push (w w2 : World) (o : Obj) : Prop where
  heap : w2.heap = w.heap.push o
  os : w2.os = w.os
  tape : w2.tape = w.tape
  output : w2.output = w.output

theorem Push.alloc (w : World) (o : Obj) : Push w (w.alloc o) o := ⟨rfl, rfl, rfl, rfl⟩
theorem Push.drew (w : World) (o : Obj) : Push w (w.drew.alloc o) o := ⟨rfl, rfl, rfl, rfl⟩
theorem Push.new {w w2 : World} {o : Obj} (h : Push w w2 o) : w2.heap[w.heap.size]? = some o := by rw [h.heap]; simp
theorem Push.old {w w2 : World} {o : Obj} (h : Push w w2 o) {b : Nat} (hb : b < w.heap.size) : w2.heap[b]? = w.heap[b]? := by rw [h.heap, Array.getElem?_push, if_neg (Nat.ne_of_lt hb)]
theorem Push.ext {w w2 : World} {o : Obj} (h : Push w w2 o) (L : GH) : Ext L w L w2 :=
  ⟨h.os, h.tape, h.output, by rw [h.heap]; simp, fun b hb _ => h.old hb, fun _ _ h => h, fun b c e fr hc => by
    have hb : b < w.heap.size := (Array.getElem?_eq_some_iff.1 hc).1
    exact ⟨c, e, fr, by rw [h.old hb]; exact hc, rfl⟩⟩

/-- What is told is told of one block more, that is new. -/
theorem Ext.tellNew {L : GH} {w : World} {g : Nat} (r : Row) {w' : World} (h : Ext L w L w') (hg : w.heap.size ≤ g) : Ext L w (upd L g r) w' :=
  ⟨h.os, h.tape, h.output, h.size, h.keep, fun b hb hl => by rw [upd_ne _ _ _ _ (by omega)]; exact hl, h.shape⟩

theorem Push.ext' {w w2 : World} {o : Obj} (h : Push w w2 o) (L : GH) (r : Row) : Ext L w (upd L w.heap.size r) w2 := (h.ext L).tellNew r (Nat.le_refl _)

theorem Push.rows0 {w w2 : World} {o : Obj} (h : Push w w2 o) {L : GH} (hr : ∀ g r, L g = some r → RowR L w g r) : ∀ g r, L g = some r → RowR L w2 g r := fun g r hg =>
  (hr g r hg).ext (h.ext L) (h.old (hr g r hg).lt)

/-- Rows behind a new block of one's own. -/
theorem Push.rows {w w2 : World} {e : TypeId} {fr : Nat × Nat} {vs rest : List Value} (h : Push w w2 (.cells (vs ++ rest).toArray e fr)) {L : GH} (hr : ∀ g r, L g = some r → RowR L w g r) (ap : Bool) (cs : List AV)
    (hap : ap = true → fr = (0, 0)) (hfr : ∀ o, o < (vs ++ rest).length → ¬ (fr.1 ≤ o ∧ o < fr.2)) (hv : VSL L w cs vs) (h1 : ∀ v ∈ vs, v.oneCell' = true) :
    ∀ g r, upd L w.heap.size ⟨e, ap, cs⟩ g = some r → RowR (upd L w.heap.size ⟨e, ap, cs⟩) w2 g r := by
  intro g r hg
  have hx := h.ext' L ⟨e, ap, cs⟩
  by_cases hgs : g = w.heap.size
  · subst hgs
    rw [upd_same] at hg
    obtain rfl := Option.some.inj hg
    have hl := hv.length
    refine ⟨(vs ++ rest).toArray, fr, vs, h.new, hap, fun o ho => hfr o (by simpa using ho), by simp; omega, ?_, VSL.ext hx _ _ hv, h1⟩
    simp [hl]
  · rw [upd_ne _ _ _ _ hgs] at hg
    have k := hr g r hg
    exact k.ext hx (h.old k.lt)

section
variable {P : Program} {N : Nat} {ops : Array Oper} {Q : Exit → TM → GH → Prop} {d : Option Nat} {ty : TypeId} {pos : String} {af : Array Edge} {os : List Oper} {t : TM} {L : GH}

/-- An operation that makes one new block of one's own, and gives an address or a slice in it. -/
theorem JO.new {op : Op} {e : TypeId} {ap : Bool} {cs : List AV} (mk : Nat → AV) (hd : dok N d = true)
    (h : ∀ a w, Sim N t L a w → ∃ w2 fr vs rest x, Push w w2 (.cells (vs ++ rest).toArray e fr) ∧ (ap = true → fr = (0, 0)) ∧ (∀ o, o < (vs ++ rest).length → ¬ (fr.1 ≤ o ∧ o < fr.2)) ∧
      (execOp a.eval ⟨d, op, ty, pos, af, none⟩).run P w = .ok (.value x) w2 ∧ VSL L w cs vs ∧ (∀ v ∈ vs, v.oneCell' = true) ∧ ∀ L', VS L' w2 (mk w.heap.size) x)
    (K : ∀ g, L g = none → JO P N ops Q os (t.putO d (mk g)) (upd L g ⟨e, ap, cs⟩)) : JO P N ops Q (⟨d, op, ty, pos, af, none⟩ :: os) t L :=
  JO.value (dok_lt hd) fun a w s => by
    obtain ⟨w2, fr, vs, rest, x, hp, hap, hfr, hr, hv, h1, hm⟩ := h a w s
    exact ⟨x, w2, mk w.heap.size, upd L w.heap.size ⟨e, ap, cs⟩, hr, hp.ext' L _, hp.rows s.rows ap cs hap hfr hv h1, hm _, K _ (fresh_of s.rows)⟩

/-- The cells of a value. -/
def AV.cells : AV → List AV
  | .agg cs => cs
  | v => [v]

/-- Is it a value of one cell, by sight? -/
def AV.one : AV → Bool
  | .p v => v.oneCell'
  | .agg _ => false
  | .tup _ => false
  | .top => false
  | _ => true

theorem AV.one_cell {L : GH} {w : World} {v : AV} {x : Value} (h : v.one = true) (hv : VS L w v x) : x.oneCell' = true := by
  cases v <;> simp only [AV.one, reduceCtorEq] at h <;> simp only [VS] at hv
  · rw [hv]; exact h
  · obtain ⟨a, c, rfl, _⟩ := hv; rfl
  · rw [hv]; rfl
  · obtain ⟨a, c, vs, rfl, _⟩ := hv; rfl
  · obtain ⟨a, vs, rfl, _⟩ := hv; rfl
  · obtain ⟨a, vs, rfl, _⟩ := hv; rfl
  · obtain ⟨y, rfl, _⟩ := hv; rfl
  · obtain ⟨vs, rfl, _⟩ := hv; rfl

/-- Cells that are all of one cell, by sight. -/
def ones (cs : List AV) : Bool := cs.all AV.one

theorem ones_cells {L : GH} {w : World} : ∀ {cs : List AV} {vs : List Value}, ones cs = true → VSL L w cs vs → ∀ v ∈ vs, v.oneCell' = true
  | [], [], _, _ => by simp
  | c :: cs, v :: vs, h, hv => by
    simp only [VSL] at hv
    simp only [ones, List.all_cons, Bool.and_eq_true] at h
    intro u hu
    rcases List.mem_cons.1 hu with rfl | hu
    · exact AV.one_cell h.1 hv.1
    · exact ones_cells (cs := cs) h.2 hv.2 u hu
  | [], _ :: _, _, hv => by simp [VSL] at hv
  | _ :: _, [], _, hv => by simp [VSL] at hv

theorem cells_of {L : GH} {w : World} {v : AV} {x : Value} (hv : VS L w v x) (h : ones v.cells = true) : VSL L w v.cells x.cells.toList := by
  cases v
  case agg cs =>
    simp only [VS] at hv
    obtain ⟨vs, rfl, hv⟩ := hv
    simpa [AV.cells, Value.cells] using hv
  all_goals
    have h1 : x.oneCell' = true := AV.one_cell (by simpa [ones, AV.cells] using h) hv
    have h2 : x.cells = #[x] := by cases x <;> first | rfl | simp [Value.oneCell'] at h1
    rw [h2]
    simp only [AV.cells, VSL]
    exact ⟨hv, trivial⟩

/-- A variable in memory that begins as a value. -/
theorem JO.box {T : TypeId} {x : Operand} {cs : List AV} (hx : (ev t x).cells = cs) (h1 : ones cs = true) (hd : dok N d = true)
    (K : ∀ g, L g = none → JO P N ops Q os (t.putO d (.ptr g 0)) (upd L g ⟨T, true, cs⟩)) : JO P N ops Q (⟨d, .box T x, ty, pos, af, none⟩ :: os) t L :=
  JO.new (fun g => .ptr g 0) hd (fun a w s => by
    subst hx
    have hv := cells_of (s.ev x) h1
    refine ⟨w.alloc (.cells (a.eval x).cells T), (0, 0), (a.eval x).cells.toList, [], .pointer (some ⟨w.heap.size, 0, none⟩), ?_, fun _ => rfl, fun o _ => by simp, ?_, hv, ones_cells h1 hv, fun L' => by simp [VS]⟩
    · simpa using Push.alloc w (.cells (a.eval x).cells T)
    · simp [execOp, Instr.box, newVar, newRow]) K

/-- A variable in memory that begins as its type's zero. -/
theorem JO.alloc {T : TypeId} {z : Value} {cs : List AV} (hz : (P.info? T).map (fun i => (i.zero, i.size, i.bytes)) = some (some z, cs.length, 0 + ((P.info? T).map (·.bytes)).getD 0)) (hc : z.cells.toList.map AV.p = cs)
    (h1 : ones cs = true) (hd : dok N d = true)
    (K : ∀ g, L g = none → JO P N ops Q os (t.putO d (.ptr g 0)) (upd L g ⟨T, true, cs⟩)) : JO P N ops Q (⟨d, .alloc T, ty, pos, af, none⟩ :: os) t L :=
  JO.new (fun g => .ptr g 0) hd (fun a w s => by
    have hv : VSL L w cs z.cells.toList := by
      rw [← hc]
      generalize z.cells.toList = l
      induction l with
      | nil => simp [VSL]
      | cons x l ih => simp only [List.map_cons, VSL, VS]; exact ⟨trivial, ih⟩
    cases hi : P.info? T with
    | none => simp [hi] at hz
    | some i =>
      have hzz : i.zero = some z := by simpa [hi] using congrArg (fun o => o.map (·.1)) hz
      refine ⟨w.alloc (.cells z.cells T), (0, 0), z.cells.toList, [], .pointer (some ⟨w.heap.size, 0, none⟩), ?_, fun _ => rfl, fun o _ => by simp, ?_, hv, ones_cells h1 hv, fun L' => by simp [VS]⟩
      · simpa using Push.alloc w (.cells z.cells T)
      · simp [execOp, Instr.alloc, zeroValue, typeInfo, hi, hzz, newVar, newRow]) K

theorem add_plain (g o n : Nat) : (⟨g, o, none⟩ : Addr).add n = ⟨g, o + n, none⟩ := Addr.add_lit g o n

/-- An element's address. -/
theorem JO.idxSl {T e : TypeId} {x i : Operand} {g sz off n : Nat} {k : IntKind} {j : Int} {ti : TypeInfo} (hT : P.underlying T = some (.slice e)) (hi : P.info? e = some ti) (hs : ti.size = sz)
    (hx : ev t x = .sl g sz off n) (hj : ev t i = .p (.int k j)) (hd : dok N d = true) (h0 : 0 ≤ j) (h1 : j < n)
    (K : JO P N ops Q os (t.putO d (.ptr g (off + j.toNat * sz))) L) : JO P N ops Q (⟨d, .indexAddr T x i, ty, pos, af, none⟩ :: os) t L :=
  JO.still hd (fun a w s => by
    have e1 := s.ev x
    have e2 := s.ev i
    rw [hx] at e1
    rw [hj] at e2
    simp only [VS] at e1 e2
    obtain ⟨ad, cap, e1, hn, hc⟩ := e1
    rcases hc with hc | ⟨rfl, _⟩
    · omega
    · refine ⟨.pointer (some ⟨g, off + j.toNat * sz, none⟩), ?_, by simp [VS]⟩
      simp [execOp, e1, e2, Instr.indexAt, asIntOf, run_underlying hT, h0, h1, sizeOf, typeInfo, hi, hs, add_plain]) K

theorem CellsAt.drop {L : GH} {w : World} {ad : Addr} {vs : List Value} (h : CellsAt L w (some ad) vs) (n : Nat) : CellsAt L w (some (ad.add n)) (vs.drop n) := by
  rcases h with rfl | ⟨a, ha, hl, h1, hc⟩
  · exact .inl (by simp)
  · obtain rfl := Option.some.inj ha
    refine .inr ⟨ad.add n, rfl, ?_, fun v hv => h1 v (List.mem_of_mem_drop hv), fun i v hi => ?_⟩
    · have : (ad.add n).block = ad.block := by unfold Addr.add; split <;> rfl
      rw [this]; exact hl
    · rw [Addr.add_add]
      exact hc (n + i) v (by simpa [List.getElem?_drop] using hi)

theorem JO.idxFz {T e : TypeId} {x i : Operand} {n : Nat} {cs : List AV} {k : IntKind} {j : Int} {ti : TypeInfo} (hT : P.underlying T = some (.slice e)) (hi : P.info? e = some ti)
    (hx : ev t x = .fz n cs) (hj : ev t i = .p (.int k j)) (hd : dok N d = true) (h0 : 0 ≤ j) (h1 : j < n) (hc : cs ≠ [])
    (K : JO P N ops Q os (t.putO d (.fp (cs.drop (j.toNat * ti.size)))) L) : JO P N ops Q (⟨d, .indexAddr T x i, ty, pos, af, none⟩ :: os) t L :=
  JO.still hd (fun a w s => by
    have e1 := s.ev x
    have e2 := s.ev i
    rw [hx] at e1
    rw [hj] at e2
    simp only [VS] at e1 e2
    obtain ⟨ad, cap, vs, e1, hn, hca, hv⟩ := e1
    have hne : vs ≠ [] := by
      rintro rfl
      have := hv.length
      simp at this
      exact hc this
    obtain ⟨b, rfl⟩ : ∃ b, ad = some b := by
      rcases hca with h | ⟨b, h, _⟩
      · exact absurd h hne
      · exact ⟨b, h⟩
    refine ⟨.pointer (some (b.add (j.toNat * ti.size))), ?_, ?_⟩
    · simp [execOp, e1, e2, Instr.indexAt, asIntOf, run_underlying hT, h0, h1, sizeOf, typeInfo, hi]
    · simp only [VS]
      exact ⟨_, _, rfl, hca.drop _, hv.drop _⟩) K

/-- A load of one cell, out of a block of one's own. -/
theorem JO.ldOwn {T : TypeId} {x : Operand} {g off : Nat} {r : Row} {v : AV} {u : TypeDesc} (hT : P.underlying T = some u) (ha : (match u with | .struct _ | .array _ _ => true | _ => false) = false)
    (hx : ev t x = .ptr g off) (hr : L g = some r) (hc : r.cs[off]? = some v) (hd : dok N d = true) (K : JO P N ops Q os (t.putO d v) L) : JO P N ops Q (⟨d, .load T x, ty, pos, af, none⟩ :: os) t L :=
  JO.still hd (fun a w s => by
    have e1 := s.ev x
    rw [hx] at e1
    simp only [VS] at e1
    obtain ⟨c, fr, vs, hh, _, _, hle, hvs, hv, _⟩ := s.rows g r hr
    obtain ⟨z, hz, hvz⟩ := hv.get off v hc
    have hcell : w.cell? ⟨g, off, none⟩ = some z := by
      have hlt : off < r.cs.length := (List.getElem?_eq_some_iff.1 hc).1
      rw [hvs, List.getElem?_take, if_pos hlt] at hz
      simp only [World.cell?, hh]
      simpa using hz
    refine ⟨z, ?_, hvz⟩
    have hagg : (isAgg T).run P w = .ok false w := by
      unfold isAgg
      simp only [Sem.run_bind, run_underlying hT, Result.andThen_ok]
      cases u <;> simp_all
    simp [execOp, e1, Instr.loadAt, Instr.sureAddr, loadVar, hagg, hcell]) K

/-- A load of one cell, out of memory that nobody writes. -/
theorem JO.ldFp {T : TypeId} {x : Operand} {cs : List AV} {v : AV} {u : TypeDesc} (hT : P.underlying T = some u) (ha : (match u with | .struct _ | .array _ _ => true | _ => false) = false)
    (hx : ev t x = .fp cs) (hc : cs[0]? = some v) (hd : dok N d = true) (K : JO P N ops Q os (t.putO d v) L) : JO P N ops Q (⟨d, .load T x, ty, pos, af, none⟩ :: os) t L :=
  JO.still hd (fun a w s => by
    have e1 := s.ev x
    rw [hx] at e1
    simp only [VS] at e1
    obtain ⟨ad, vs, e1, hca, hv⟩ := e1
    obtain ⟨z, hz, hvz⟩ := hv.get 0 v hc
    have hcell : w.cell? ad = some z := by
      rcases hca with rfl | ⟨b, hb, _, _, hc⟩
      · simp at hz
      · obtain rfl := Option.some.inj hb
        exact hc 0 z hz
    refine ⟨z, ?_, hvz⟩
    have hagg : (isAgg T).run P w = .ok false w := by
      unfold isAgg
      simp only [Sem.run_bind, run_underlying hT, Result.andThen_ok]
      cases u <;> simp_all
    simp [execOp, e1, Instr.loadAt, Instr.sureAddr, loadVar, hagg, hcell]) K
end

/-- A store of cells into a block none of whose cells bears a mark. -/
theorem run_storeCells_in {P : Program} (g o : Nat) (e : TypeId) (fr : Nat × Nat) : ∀ (vs : List Value) (i : Nat) (cur : Array Value) (w : World), w.heap[g]? = some (.cells cur e fr) → (∀ j, j < cur.size → ¬ (fr.1 ≤ j ∧ j < fr.2)) →
    o + i + vs.length ≤ cur.size → (∀ v ∈ vs, v.oneCell' = true) →
    (storeCells ⟨g, o, none⟩ vs i).run P w = .ok () (w.setRow g (cur.toList.take (o + i) ++ vs ++ cur.toList.drop (o + i + vs.length)).toArray)
  | [], i, cur, w, hg, _, _, _ => by
    simp only [storeCells, List.append_nil, List.length_nil, Nat.add_zero, List.take_append_drop, Array.toArray_toList]
    rw [setRow_self w g cur e fr hg]
    rfl
  | v :: rest, i, cur, w, hg, hf, hl, h1 => by
    have hi : o + i < cur.size := by simp at hl; omega
    have hadd : (⟨g, o, none⟩ : Addr).add i = ⟨g, o + i, none⟩ := Addr.add_lit g o i
    have hcell : w.cell? ⟨g, o + i, none⟩ = some cur[o + i] := by simp [World.cell?, hg, hi]
    have hfro : w.frozen? ⟨g, o + i, none⟩ = false := by
      have := hf (o + i) hi
      simp only [World.frozen?, hg]
      cases hh : (decide (fr.1 ≤ o + i) && decide (o + i < fr.2)) with
      | false => rfl
      | true => exact absurd (by simpa using hh) this
    have hst : (store ((⟨g, o, none⟩ : Addr).add i) v).run P w = .ok () (w.setRow g (cur.setIfInBounds (o + i) v)) := by
      rw [hadd, run_store P w _ v _ (h1 v (by simp)), hcell]
      simp [hfro, setCell_eq_setRow w g (o + i) cur e fr v hg]
    have ih := run_storeCells_in (P := P) g o e fr rest (i + 1) (cur.setIfInBounds (o + i) v) (w.setRow g (cur.setIfInBounds (o + i) v)) (setRow_heap w g cur _ e fr hg) (fun j hj => hf j (by simpa using hj)) (by simp at hl ⊢; omega) (fun x hx => h1 x (by simp [hx]))
    simp only [storeCells, Sem.run_bind, hst, Result.andThen_ok, ih, setRow_setRow]
    congr 3
    have e := list_seg_step cur.toList (o + i) v rest (by simp at hl ⊢; omega)
    simpa [Array.toList_setIfInBounds, Nat.add_assoc] using e

theorem take_splice {α : Type} (l vs : List α) (off n : Nat) (h : off + vs.length ≤ n) (hn : n ≤ l.length) :
    (l.take off ++ vs ++ l.drop (off + vs.length)).take n = (l.take n).take off ++ vs ++ (l.take n).drop (off + vs.length) := by
  have l1 : (l.take off).length = off := by simp; omega
  have l2 : (l.take off ++ vs).length = off + vs.length := by simp; omega
  rw [List.take_append, l2, List.take_append, l1, List.take_take, List.take_take, List.drop_take, List.take_of_length_le (l := vs) (by omega), show min n off = off by omega, show min off n = off by omega]

/-- Cells of one's own block written: what holds behind that. -/
theorem put_cells {L : GH} {w : World} {g off : Nat} {r : Row} {vs : List Value} {us : List AV} (hr : ∀ g r, L g = some r → RowR L w g r) (hg : L g = some r) (hv : VSL L w us vs) (h1 : ∀ v ∈ vs, v.oneCell' = true)
    (hle : off + us.length ≤ r.cs.length) : ∃ c fr, w.heap[g]? = some (.cells c r.e fr) ∧ (∀ j, j < c.size → ¬ (fr.1 ≤ j ∧ j < fr.2)) ∧ off + vs.length ≤ c.size ∧
      Ext L w (upd L g ⟨r.e, r.ap, r.cs.take off ++ us ++ r.cs.drop (off + us.length)⟩) (w.setRow g (c.toList.take off ++ vs ++ c.toList.drop (off + vs.length)).toArray) ∧
      ∀ g' r', upd L g ⟨r.e, r.ap, r.cs.take off ++ us ++ r.cs.drop (off + us.length)⟩ g' = some r' → RowR (upd L g ⟨r.e, r.ap, r.cs.take off ++ us ++ r.cs.drop (off + us.length)⟩) (w.setRow g (c.toList.take off ++ vs ++ c.toList.drop (off + vs.length)).toArray) g' r' := by
  obtain ⟨c, fr, zs, hh, hap, hfr, hl, hzs, hvz, h1z⟩ := hr g r hg
  have hlen := hv.length
  have hsz : off + vs.length ≤ c.size := by omega
  have hnew := setRow_heap w g c (c.toList.take off ++ vs ++ c.toList.drop (off + vs.length)).toArray r.e fr hh
  have hns : (c.toList.take off ++ vs ++ c.toList.drop (off + vs.length)).toArray.size = c.size := by
    simp
    omega
  have hx : Ext L w (upd L g ⟨r.e, r.ap, r.cs.take off ++ us ++ r.cs.drop (off + us.length)⟩) (w.setRow g (c.toList.take off ++ vs ++ c.toList.drop (off + vs.length)).toArray) := by
    refine ⟨rfl, rfl, rfl, by simp, fun b hb hl => ?_, fun b hb hl => ?_, fun b c' e' fr' hc' => ?_⟩
    · exact setRow_other w g b _ (by rintro rfl; rw [hg] at hl; cases hl)
    · rw [upd_ne]
      · exact hl
      · rintro rfl; rw [hg] at hl; cases hl
    · by_cases hb : b = g
      · subst hb
        rw [hh] at hc'
        injection hc' with hc'
        injection hc' with h1 h2 h3
        subst h1
        exact ⟨_, _, _, hnew, hns⟩
      · exact ⟨c', e', fr', by rw [setRow_other w g b _ hb]; exact hc', rfl⟩
  refine ⟨c, fr, hh, hfr, hsz, hx, fun g' r' hg' => ?_⟩
  by_cases hgg : g' = g
  · subst hgg
    rw [upd_same] at hg'
    obtain rfl := Option.some.inj hg'
    have hlen2 : (r.cs.take off ++ us ++ r.cs.drop (off + us.length)).length = r.cs.length := by simp; omega
    refine ⟨_, fr, zs.take off ++ vs ++ zs.drop (off + vs.length), hnew, hap, fun o ho => hfr o (by omega), by rw [hlen2, hns]; exact hl, ?_, ?_, ?_⟩
    · show _ = List.take (r.cs.take off ++ us ++ r.cs.drop (off + us.length)).length _
      rw [hlen2, hzs]
      exact (take_splice c.toList vs off r.cs.length (by omega) (by simpa using hl)).symm
    · exact VSL.ext hx _ _ (VSL.append (VSL.append (VSL.take off hvz) hv) (by rw [← hlen]; exact VSL.drop _ hvz))
    · intro v hv'
      rcases List.mem_append.1 hv' with hv' | hv'
      · rcases List.mem_append.1 hv' with hv' | hv'
        · exact h1z v (List.mem_of_mem_take hv')
        · exact h1 v hv'
      · exact h1z v (List.mem_of_mem_drop hv')
  · rw [upd_ne _ _ _ _ hgg] at hg'
    have k := hr g' r' hg'
    exact k.ext hx (setRow_other w g g' _ hgg)

section
variable {P : Program} {N : Nat} {ops : Array Oper} {Q : Exit → TM → GH → Prop} {d : Option Nat} {ty : TypeId} {pos : String} {af : Array Edge} {os : List Oper} {t : TM} {L : GH}

/-- A store into a block of one's own. -/
theorem JO.st {T : TypeId} {x y : Operand} {g off : Nat} {r : Row} {cs : List AV} {ti : TypeInfo} (hi : P.info? T = some ti) (hs : ti.size = cs.length)
    (hx : ev t x = .ptr g off) (hr : L g = some r) (hy : (ev t y).cells = cs) (h1 : ones cs = true) (hle : off + cs.length ≤ r.cs.length)
    (K : JO P N ops Q os t (upd L g ⟨r.e, r.ap, r.cs.take off ++ cs ++ r.cs.drop (off + cs.length)⟩)) : JO P N ops Q (⟨none, .store T x y, ty, pos, af, none⟩ :: os) t L := by
  refine JO.op rfl (fun _ => t) fun L0 w0 a w he s => ?_
  subst hy
  have e1 := s.ev x
  rw [hx] at e1
  simp only [VS] at e1
  have hv := cells_of (s.ev y) h1
  obtain ⟨c, fr, hh, hfr, hsz, hxt, hrows⟩ := put_cells s.rows hr hv (ones_cells h1 hv) hle
  have hlen := hv.length
  have hst := run_storeCells_in (P := P) g off r.e fr (a.eval y).cells.toList 0 c w hh hfr (by simpa using hsz) (ones_cells h1 hv)
  simp only [Nat.add_zero] at hst
  have hrun : (execOp a.eval ⟨none, .store T x y, ty, pos, af, none⟩).run P w = .ok .skip (w.setRow g (c.toList.take off ++ (a.eval y).cells.toList ++ c.toList.drop (off + (a.eval y).cells.toList.length)).toArray) := by
    have hz : (a.eval y).cells.size = ti.size := by rw [hs, hlen]; simp
    simp only [execOp, e1, Instr.storeAt, Instr.sureAddr, storeVar, Sem.run_bind, Sem.run_pure, Result.andThen_ok, sizeOf, typeInfo, run_program, hi, hz, ne_eq, not_true_eq_false, if_false]
    rw [hst]
    rfl
  unfold Oper.wp
  rw [hrun]
  simp only [Oper.upon_skip]
  exact K L0 w0 _ _ (he.trans hxt) (s.ext hxt hrows)
end
end Go.Proofs.YtljgkjkdmoejfaaAv
