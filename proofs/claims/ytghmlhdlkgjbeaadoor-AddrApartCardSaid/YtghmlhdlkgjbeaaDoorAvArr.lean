/-
  ABSTRACT VALUES over the model (own framework, part 13): arguments that are arrays of bytes; variables that hold an interface's value.
-/
import Derived.Test.YtghmlhdlkgjbeaaDoorAvCard
import Derived.WideKeyArr2
import Derived.Carry
set_option linter.unusedVariables false
set_option linter.unusedSimpArgs false
namespace Go.Proofs.YtghmlhdlkgjbeaaDoorAv
open Go Go.RowKit Go.ChangeShapes Go.WideShapes

theorem open_u8s {H : Type} {enc : TypeId × Value → H} {P : Program} {W : World} {base : Nat} {sp : Nat → Bool} {held : Bool} {t e : TypeId} {n : Nat} {r : Reach} {b0 : Nat} {v : Value} {d : DataW H} {ps : List MemPlace}
    (ht : P.underlying t = some (.array n e)) (he : P.underlying e = some (.int .u8)) (hc : P.cellsOf e = 1) (hct : P.cellsOf t = n)
    (hval : Value.okWide P W r b0 t v) (hd : DataW.Trod enc P W base sp held t v d ps) :
    ∃ l : List Int, l.length = n ∧ v = .agg (l.map (Value.int .u8)).toArray ∧ (∀ x ∈ l, 0 ≤ x ∧ x ≤ 255) := by
  have hv : ∃ cs : Array Value, v = .agg cs ∧ cs.size = n := by
    simp only [Value.okWide, ht] at hval
    obtain ⟨cs, h1, h2, _⟩ := hval
    exact ⟨cs, h1, by rw [h2, hct]⟩
  obtain ⟨cs, rfl, hn⟩ := hv
  obtain ⟨fuel, hf⟩ := hd
  cases fuel with
  | zero => simp [DataW.trod] at hf
  | succ m =>
    rw [DataW.trod_step] at hf
    unfold DataW.trodStep at hf
    simp only [ht, Value.cells] at hf
    rw [if_pos (by rw [hct]; simpa using hn)] at hf
    simp only [Option.map_eq_some_iff] at hf
    obtain ⟨ys, hy, -⟩ := hf
    have key : ∀ i (hi : i < cs.size), ∃ a, cs[i] = .int .u8 a ∧ 0 ≤ a ∧ a ≤ 255 := fun i hi => by
      obtain ⟨b, _, hb⟩ := Lib.mapM_at hy i i (by rw [List.getElem?_range (by omega)])
      rw [hc, Nat.mul_one] at hb
      have h1 : (cs.toList.drop i).take 1 = [cs[i]] := by
        rw [List.drop_eq_getElem_cons (by simpa using hi)]
        simp
      rw [h1] at hb
      obtain ⟨a, ea, -, wa⟩ := DataW.trod_int he hb
      have ea : cs[i] = .int .u8 a := by simpa using ea
      refine ⟨a, ea, ?_⟩
      simp [Lit.wf, IntKind.min, IntKind.max, IntKind.signed, IntKind.bits] at wa
      omega
    refine ⟨cs.toList.map fun v => match v with | .int _ i => i | _ => 0, by simpa using hn, ?_, ?_⟩
    · congr 1
      apply Array.ext
      · simp
      · intro i h1 h2
        obtain ⟨a, ea, -, -⟩ := key i h1
        simp [ea]
    · intro x hx
      obtain ⟨v, hv, rfl⟩ := List.mem_map.1 hx
      obtain ⟨i, hi, rfl⟩ := List.getElem_of_mem hv
      obtain ⟨a, ea, h1, h2⟩ := key i (by simpa using hi)
      have : cs.toList[i] = .int .u8 a := by simpa using ea
      rw [this]
      exact ⟨h1, h2⟩
/-- A listed variable of an interface's type. -/
theorem glb_laidIfc {P : Program} {W : World} {laid : List (String × DataW Unit)} (hl : laidMetH P laid W) (name : String) {d : DataW Unit} {g : Nat} {t : TypeId} {ms : Array (String × TypeId)} {zero : Array Value} 
    (hm : (name, d) ∈ laid) (hn : d.handleName?.isNone = true) (h : W.ShapedOpen P) (hg : g < P.globals.size) (hgn : P.globalNamed name = some g) (hty : (P.globals[g]?).map (·.type) = some t)
    (h0 : ((begin P (fun _ _ => 0) default).world.heap[g]?).bind Obj.row? = some (zero, t)) (hz : zero.size = 1) (hu : P.underlying t = some (.interface ms)) :
    noL g = none ∧ g < W.heap.size ∧ (∀ i v, [GV.ifc][i]? = some v → ∃ x, W.cell? ⟨g, i, none⟩ = some x ∧ v.is x ∧ x.oneCell' = true) ∧ ∃ c e fr, W.heap[g]? = some (.cells c e fr) ∧ c.size = [GV.ifc].length := by
  obtain ⟨g', t', cs, fuel, p, hg', ht', hvar, hd⟩ := laidMetH_at hl hm hn
  obtain rfl := Option.some.inj (hgn.symm.trans hg')
  obtain rfl := Option.some.inj (hty.symm.trans ht')
  have hc : ∀ i, W.cell? ⟨g, i, none⟩ = cs.toList[i]? := fun i => by rw [World.var?_cell hgn hvar i, Array.getElem?_toList]
  generalize cs.toList = l at hd hc
  refine glb_one h hg h0 hz ?_
  cases fuel with
  | zero => simp [DataW.trod] at hd
  | succ m =>
    rw [DataW.trod_step] at hd
    unfold DataW.trodStep at hd
    simp only [hu] at hd
    cases l with
    | nil => simp at hd
    | cons x l =>
      have hx : x = .nilIface ∨ ∃ u v, x = .iface u v := by
        cases l with
        | cons y l => cases x <;> simp at hd
        | nil =>
          cases x
          case nilIface => exact .inl rfl
          case iface u v => exact .inr ⟨u, v, rfl⟩
          all_goals simp at hd
      refine ⟨x, hc 0, hx, ?_⟩
      rcases hx with rfl | ⟨u, v, rfl⟩ <;> rfl
/-! The witness's world, where listed variables hold pointers to errors' texts. -/
def layIf (P : Program) (u st : TypeId) (w : World) (n : String) (s : List UInt8) : World :=
  match P.globalNamed n with
  | some g => World.alloc { w with heap := w.heap.modify g (layCells #[.iface u (.pointer (some ⟨w.heap.size, 0, none⟩))]) } (.cells #[.string ⟨s.toArray⟩] st)
  | none => w
def layVar2 (P : Program) (u st : TypeId) (w : World) (x : String × DataW Unit) : World :=
  match x.2 with
  | .iface _ (.ptr (.agg [.lit (.string s)])) => layIf P u st w x.1 s
  | _ => layVar P w x
noncomputable def layWorld2 (P : Program) (os : Os) (u st : TypeId) (laid : List (String × DataW Unit)) : World := laid.foldl (layVar2 P u st) (World.holding P os ⟨#[], #[], []⟩)
end Go.Proofs.YtghmlhdlkgjbeaaDoorAv
