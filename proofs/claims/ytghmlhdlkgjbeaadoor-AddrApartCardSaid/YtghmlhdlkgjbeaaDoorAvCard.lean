/-
  ABSTRACT VALUES over the model (own framework, part 12): from what a row lists of the package-level variables to what is known of their cells; a card's frame.
-/
import Derived.Test.YtghmlhdlkgjbeaaDoorAvRow
import Derived.Lib.LaidTab
import Derived.Shelf.Vars
set_option linter.unusedVariables false
set_option linter.unusedSimpArgs false
namespace Go.Proofs.YtghmlhdlkgjbeaaDoorAv
open Go Go.RowKit Go.ChangeShapes Go.WideShapes

theorem laidVars_at {P : Program} {W : World} {name : String} {d : DataW Unit} : ∀ {laid : List (String × DataW Unit)} {ps : List MemPlace}, DataW.LaidVars P W laid ps → (name, d) ∈ laid →
    ∃ g t cs fuel p, P.globalNamed name = some g ∧ (P.globals[g]?).map (·.type) = some t ∧ W.var? P name = some cs ∧ DataW.trod (fun _ => ()) P W 0 (fun _ => true) false fuel t cs.toList = some (d, p)
  | [], _, _, h => by cases h
  | (n, e) :: r, ps, h, hm => by
    simp only [DataW.LaidVars] at h
    obtain ⟨g, t, cs, fuel, p, q, h1, h2, h3, h4, h5, _⟩ := h
    rcases List.mem_cons.1 hm with hm | hm
    · cases hm
      exact ⟨g, t, cs, fuel, p, h1, h2, h3, h4⟩
    · exact laidVars_at h5 hm

theorem laidMetH_at {P : Program} {W : World} {laid : List (String × DataW Unit)} (h : laidMetH P laid W) {name : String} {d : DataW Unit} (hm : (name, d) ∈ laid) (hn : d.handleName?.isNone = true) :
    ∃ g t cs fuel p, P.globalNamed name = some g ∧ (P.globals[g]?).map (·.type) = some t ∧ W.var? P name = some cs ∧ DataW.trod (fun _ => ()) P W 0 (fun _ => true) false fuel t cs.toList = some (d, p) := by
  unfold laidMetH at h
  split at h
  · obtain ⟨ps, h, _⟩ := h
    exact laidVars_at h hm
  · obtain ⟨⟨ps, h, _⟩, _⟩ := h
    exact laidVars_at h (List.mem_filter.2 ⟨hm, hn⟩)

/-- What a one-celled datum says of the cell. -/
def cellD {H : Type} : Value → DataW H
  | .int k n => .lit (.int k n)
  | .string s => .lit (.string s.data.toList)
  | .bool b => .lit (.bool b)
  | _ => .nil
theorem trod_cell {H : Type} {enc : TypeId × Value → H} {P : Program} {w : World} {base : Nat} {sp : Nat → Bool} {held : Bool} {fuel : Nat} {e : TypeId} {c v : Value} {q : List MemPlace}
    (he : (∃ k, P.underlying e = some (.int k)) ∨ P.underlying e = some .string) (hv : (∃ k n, v = .int k n) ∨ ∃ s, v = .string s)
    (h : DataW.trod enc P w base sp held fuel e [c] = some (cellD v, q)) : c = v := by
  rcases he with ⟨k, he⟩ | he
  · obtain ⟨z, h1, h2, _⟩ := DataW.trod_int he h
    rcases hv with ⟨k', n, rfl⟩ | ⟨s, rfl⟩
    · simp only [cellD, Prod.mk.injEq, DataW.lit.injEq, Lit.int.injEq] at h2
      obtain ⟨⟨rfl, rfl⟩, _⟩ := h2
      simpa using h1
    · simp [cellD] at h2
  · obtain ⟨s, h1, h2, _⟩ := DataW.trod_string he h
    rcases hv with ⟨k', n, rfl⟩ | ⟨s', rfl⟩
    · simp [cellD] at h2
    · simp only [cellD, Prod.mk.injEq, DataW.lit.injEq, Lit.string.injEq] at h2
      obtain ⟨h2, _⟩ := h2
      have : s' = s := by
        cases s; cases s'
        simp only [ByteArray.mk.injEq]
        exact Array.toList_inj.1 h2
      rw [this]
      simpa using h1

theorem cells_of_row {H : Type} {enc : TypeId × Value → H} {P : Program} {w : World} {base : Nat} {sp : Nat → Bool} {held : Bool} {fuel : Nat} {t e : TypeId} {n : Nat} {cs : List Value} {vs : List Value} {p : List MemPlace}
    (ht : P.underlying t = some (.array n e)) (he : (∃ k, P.underlying e = some (.int k)) ∨ P.underlying e = some .string) (hce : P.cellsOf e = 1) (hct : P.cellsOf t = n)
    (hvs : ∀ v ∈ vs, (∃ k n, v = .int k n) ∨ ∃ s, v = .string s)
    (h : DataW.trod enc P w base sp held fuel t cs = some (.agg (vs.map cellD), p)) : cs = vs := by
  cases fuel with
  | zero => simp [DataW.trod] at h
  | succ fuel =>
    simp only [DataW.trod, ht, hce, hct, Nat.mul_one] at h
    split at h
    · rename_i hl
      obtain ⟨xs, hm, hx⟩ := Option.map_eq_some_iff.1 h
      have hxs : xs.map (·.1) = vs.map (cellD (H := H)) := by
        have := congrArg Prod.fst hx
        simpa using this
      have hxl : xs.length = n := by simpa using Lib.mapM_length hm
      have hzl : vs.length = n := by
        have := congrArg List.length hxs
        simp at this
        omega
      apply List.ext_getElem?
      intro i
      by_cases hi : i < n
      · obtain ⟨b, hb, hf⟩ := Lib.mapM_at hm i i (by simp [hi])
        have hc : (cs.drop i).take 1 = [cs[i]'(by omega)] := by
          rw [List.drop_eq_getElem_cons (by omega)]
          rfl
        have hv : vs[i]? = some (vs[i]'(by omega)) := List.getElem?_eq_getElem _
        have hb2 : (xs.map (·.1))[i]? = some b.1 := by simp [hb]
        rw [hxs, List.getElem?_map, hv] at hb2
        simp only [Option.map_some, Option.some.injEq] at hb2
        rw [hc] at hf
        have hbe : b = (cellD (vs[i]'(by omega)), b.2) := by rw [hb2]
        rw [hbe] at hf
        have := trod_cell he (hvs _ (List.getElem_mem _)) hf
        rw [hv, List.getElem?_eq_getElem (by omega), this]
      · rw [List.getElem?_eq_none (by omega), List.getElem?_eq_none (by omega)]
    · cases h

/-- A listed array of one-celled values: what is known of the variable's cells. -/
theorem glb_row {P : Program} {W : World} {laid : List (String × DataW Unit)} (h : laidMetH P laid W) (name : String) (vs : List Value) {g : Nat} {t e : TypeId} {n : Nat}
    (hm : (name, DataW.agg (vs.map cellD)) ∈ laid) (hg : P.globalNamed name = some g) (hty : (P.globals[g]?).map (·.type) = some t)
    (ht : P.underlying t = some (.array n e)) (he : (∃ k, P.underlying e = some (.int k)) ∨ P.underlying e = some .string) (hce : P.cellsOf e = 1) (hct : P.cellsOf t = n) (hvs : ∀ v ∈ vs, (∃ k n, v = .int k n) ∨ ∃ s, v = .string s) (hne : 0 < vs.length) :
    noL g = none ∧ g < W.heap.size ∧ (∀ i v, (vs.map GV.val)[i]? = some v → ∃ x, W.cell? ⟨g, i, none⟩ = some x ∧ v.is x ∧ x.oneCell' = true) ∧ ∃ c e fr, W.heap[g]? = some (.cells c e fr) ∧ c.size = (vs.map GV.val).length := by
  obtain ⟨g', t', cs, fuel, p, hg', ht', hvar, hd⟩ := laidMetH_at h hm rfl
  obtain rfl := Option.some.inj (hg.symm.trans hg')
  obtain rfl := Option.some.inj (hty.symm.trans ht')
  have e := cells_of_row ht he hce hct hvs hd
  have hc : ∀ i, W.cell? ⟨g, i, none⟩ = vs[i]? := fun i => by rw [World.var?_cell hg hvar i, ← e, Array.getElem?_toList]
  refine ⟨rfl, ?_, fun i v hi => ?_, ?_⟩
  · have h0 := hc 0
    rw [List.getElem?_eq_getElem hne] at h0
    refine Nat.lt_of_not_le fun hle => ?_
    unfold World.cell? at h0
    simp only [Array.getElem?_eq_none hle] at h0
    cases h0
  · rw [List.getElem?_map] at hi
    cases hv : vs[i]? with
    | none => rw [hv] at hi; cases hi
    | some x =>
      rw [hv] at hi
      obtain rfl := Option.some.inj hi
      refine ⟨x, (hc i).trans hv, rfl, ?_⟩
      rcases hvs x (List.mem_of_getElem? hv) with ⟨k, n, rfl⟩ | ⟨s, rfl⟩ <;> rfl
  · unfold World.var? at hvar
    rw [hg] at hvar
    simp only [Option.bind_some] at hvar
    split at hvar
    · rename_i c e' fr hh
      obtain rfl := Option.some.inj hvar
      exact ⟨c, e', fr, hh, by rw [List.length_map, ← e, Array.length_toList]⟩
    · cases hvar

/-- A variable that holds some whole number, or an interface's value: by the world's shape. -/
theorem glb_one {P : Program} {W : World} {g : Nat} {t : TypeId} {zero : Array Value} {gv : GV}
    (h : W.ShapedOpen P) (hg : g < P.globals.size) (h0 : ((begin P (fun _ _ => 0) default).world.heap[g]?).bind Obj.row? = some (zero, t)) (hz : zero.size = 1) (hc : ∃ x, W.cell? ⟨g, 0, none⟩ = some x ∧ gv.is x ∧ x.oneCell' = true) :
    noL g = none ∧ g < W.heap.size ∧ (∀ i v, [gv][i]? = some v → ∃ x, W.cell? ⟨g, i, none⟩ = some x ∧ v.is x ∧ x.oneCell' = true) ∧ ∃ c e fr, W.heap[g]? = some (.cells c e fr) ∧ c.size = [gv].length := by
  obtain ⟨cs, hh, hs, _⟩ := h.1 g zero t hg h0
  obtain ⟨x, hx, hi, ho⟩ := hc
  refine ⟨rfl, ?_, fun i v hi' => ?_, cs, t, _, hh, by rw [hs, hz]; rfl⟩
  · refine Nat.lt_of_not_le fun hle => ?_
    rw [Array.getElem?_eq_none hle] at hh
    cases hh
  · cases i with
    | zero =>
      obtain rfl := Option.some.inj hi'
      exact ⟨x, hx, hi, ho⟩
    | succ i => cases hi'
theorem glb_int {P : Program} {W : World} {g : Nat} {t : TypeId} {zero : Array Value} {k : IntKind}
    (h : W.ShapedOpen P) (hg : g < P.globals.size) (h0 : ((begin P (fun _ _ => 0) default).world.heap[g]?).bind Obj.row? = some (zero, t)) (hz : zero.size = 1)
    (hb : P.buildable t = true) (hc : P.cellTypes P.depth t = some [t]) (hu : P.underlying t = some (.int k)) :
    noL g = none ∧ g < W.heap.size ∧ (∀ i v, [GV.int k][i]? = some v → ∃ x, W.cell? ⟨g, i, none⟩ = some x ∧ v.is x ∧ x.oneCell' = true) ∧ ∃ c e fr, W.heap[g]? = some (.cells c e fr) ∧ c.size = [GV.int k].length := by
  obtain ⟨m, hm⟩ := Go.Proofs.cell_of_shapedOpen_int h hg h0 hz hb hc hu
  exact glb_one h hg h0 hz ⟨_, hm, ⟨m, rfl⟩, rfl⟩

/-! The witness's world. -/
mutual
def flatD : DataW Unit → List Value
  | .lit (.int k n) => [.int k n]
  | .lit (.string s) => [.string ⟨s.toArray⟩]
  | .lit (.bool b) => [.bool b]
  | .agg l => flatDs l
  | _ => []
def flatDs : List (DataW Unit) → List Value
  | [] => []
  | d :: l => flatD d ++ flatDs l
end
def layCells (cs : Array Value) : Obj → Obj
  | .cells _ t frozen => .cells cs t frozen
  | o => o
def layVar (P : Program) (w : World) (x : String × DataW Unit) : World :=
  match P.globalNamed x.1 with
  | some g => { w with heap := w.heap.modify g (layCells (flatD x.2).toArray) }
  | none => w
noncomputable def layWorld (P : Program) (os : Os) (laid : List (String × DataW Unit)) : World := laid.foldl (layVar P) (World.holding P os ⟨#[], #[], []⟩)
end Go.Proofs.YtghmlhdlkgjbeaaDoorAv
